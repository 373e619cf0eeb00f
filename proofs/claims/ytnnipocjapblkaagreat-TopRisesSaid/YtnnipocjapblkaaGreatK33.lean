/- Axes that go elsewhere: the plain law. -/
import Derived.Test.YtnnipocjapblkaaGreatK32
import Derived.Test.YtnnipocjapblkaaGreatK21
import Derived.Test.YtnnipocjapblkaaGreatK07
import Derived.Test.YtnnipocjapblkaaGreatK31
import Derived.Test.YtnnipocjapblkaaGreatK27
import Derived.Test.YtnnipocjapblkaaGreatK28
import Derived.Test.YtnnipocjapblkaaGreatK24
set_option maxHeartbeats 4000000
namespace Go.Proofs.YtnnipocjapblkaaGreat
set_option linter.unusedVariables false
open Go.RowKit
def posL:List Int→Int→Nat
 | [],_=>0
 | x::xs,a=>if x=a then 0 else posL xs a+1
theorem posL_get:∀ {l:List Int} {a:Int},posL l a<l.length→l[posL l a]? = some a
 | [],a,h=>by simp [posL] at h
 | x::xs,a,h=>by
   simp only [posL] at h ⊢
   split
   ·rename_i e; subst e; rfl
   ·rename_i e
    rw [if_neg e] at h
    simp only [List.length_cons] at h
    rw [List.getElem?_cons_succ]
    exact posL_get (by omega)
theorem posL_le:∀ {l:List Int} {a:Int} {i:Nat},l[i]? = some a→posL l a≤i
 | [],a,i,h=>by simp at h
 | x::xs,a,0,h=>by simp at h; subst h; simp [posL]
 | x::xs,a,i+1,h=>by
   simp only [posL]
   split
   ·omega
   ·have:=posL_le (l:=xs) (i:=i) (by simpa using h); omega
def scG {α:Type} (l:List Int) (n:Nat) (f:Nat→α) (v:α) (i:Nat):List α:=(List.range n).map fun j:Nat=>if posL l ((j:Int)+1)<i then f (posL l ((j:Int)+1)) else v
theorem scG_len {α:Type} (l:List Int) (n:Nat) (f:Nat→α) (v:α) (i:Nat):(scG l n f v i).length=n:=by simp [scG]
theorem scG_get {α:Type} (l:List Int) (n:Nat) (f:Nat→α) (v:α) (i:Nat) {j:Nat} (h:j<n):(scG l n f v i)[j]? = some (if posL l ((j:Int)+1)<i then f (posL l ((j:Int)+1)) else v):=by
 unfold scG; rw [List.getElem?_map,List.getElem?_range h]; rfl
theorem scG_zero {α:Type} (l:List Int) (n:Nat) (f:Nat→α) (v:α):scG l n f v 0=List.replicate n v:=by
 apply List.ext_getElem?
 intro j
 by_cases h:j<n
 ·rw [scG_get l n f v 0 h,if_neg (by omega),List.getElem?_replicate,if_pos h]
 ·rw [List.getElem?_eq_none (by rw [scG_len]; omega),List.getElem?_eq_none (by simp; omega)]
def okP (l:List Int) (n i:Nat):Prop:=∀ m k,m<i→l[m]? = some k→1≤k∧k≤n∧posL l k=m
theorem scG_step {α:Type} {l:List Int} {n i:Nat} {k:Int} (f:Nat→α) (v:α) (hk:l[i]? = some k) (h1:1≤k) (h2:k≤n) (hp:posL l k=i):(scG l n f v i).set (k - 1).toNat (f i)=scG l n f v (i+1):=by
 have hil:=(List.getElem?_eq_some_iff.1 hk).1
 have hlt:(k - 1).toNat<(scG l n f v i).length:=by rw [scG_len]; omega
 apply List.ext_getElem?
 intro j
 by_cases h:j<n
 ·rw [scG_get l n f v (i+1) h]
  by_cases hj:j=(k - 1).toNat
  ·subst hj
   rw [List.getElem?_set_self hlt,show (((k - 1).toNat:Nat):Int)+1=k from by omega,hp,if_pos (by omega)]
  ·rw [List.getElem?_set_ne (by omega),scG_get l n f v i h]
   have hne:posL l ((j:Int)+1)≠i:=fun e=>by
    have:=posL_get (l:=l) (a:=(j:Int)+1) (by rw [e]; exact hil)
    rw [e,hk] at this
    simp only [Option.some.injEq] at this
    omega
   by_cases h3:posL l ((j:Int)+1)<i
   ·rw [if_pos h3,if_pos (by omega)]
   ·rw [if_neg h3,if_neg (by omega)]
 ·rw [List.getElem?_eq_none (by rw [List.length_set,scG_len]; omega),List.getElem?_eq_none (by rw [scG_len]; omega)]
theorem scG_at {α:Type} {l:List Int} {n i:Nat} {k:Int} (f:Nat→α) (v:α) (h1:1≤k) (h2:k≤n):(scG l n f v i)[(k - 1).toNat]? = some (if posL l k<i then f (posL l k) else v):=by
 rw [scG_get l n f v i (by omega),show (((k - 1).toNat:Nat):Int)+1=k from by omega]
theorem cnt_set:∀ (bs:List Bool) (m:Nat),bs[m]? = some false→(bs.set m true).countP (· == false)+1=bs.countP (· == false)
 | [],m,h=>by simp at h
 | b::bs,0,h=>by simp at h; subst h; simp
 | b::bs,m+1,h=>by
   have:=cnt_set bs m (by simpa using h)
   simp only [List.set_cons_succ,List.countP_cons]
   omega
theorem seen_count {l:List Int} {n:Nat}:∀ i,i≤l.length→okP l n i→(scG l n (fun _=>true) false i).countP (· == false)+i=n
 | 0,_,_=>by
   rw [scG_zero]
   have:∀ n:Nat,(List.replicate n false).countP (· == false)=n:=fun n=>by
    induction n with
    | zero=>rfl
    | succ n ih=>rw [List.replicate_succ,List.countP_cons,ih]; simp
   rw [this]; rfl
 | i+1,hi,h=>by
   obtain ⟨k,hk⟩:∃ k,l[i]? = some k:=⟨_,List.getElem?_eq_getElem (by omega)⟩
   obtain ⟨h1,h2,h3⟩:=h i k (by omega) hk
   have ih:=seen_count i (by omega) (fun m y hm hy=>h m y (by omega) hy)
   have hst:=scG_step (fun _=>true) false hk h1 h2 h3
   have hat:=scG_at (l:=l) (i:=i) (fun _=>true) false h1 h2
   rw [h3,if_neg (by omega)] at hat
   have:=cnt_set _ _ hat
   rw [hst] at this
   omega
theorem okP_all {l:List Int} {n:Nat} (hl:l.length=n) (h:okP l n n):∀ j,j<n→posL l ((j:Int)+1)<n:=fun j hj=>by
 have hc:=seen_count n (by omega) h
 have h0:(scG l n (fun _=>true) false n).countP (· == false)=0:=by omega
 rw [List.countP_eq_zero] at h0
 have:=h0 _ (List.mem_of_getElem? (scG_get l n (fun _=>true) false n hj))
 rcases Nat.lt_or_ge (posL l ((j:Int)+1)) n with h1|h1
 ·exact h1
 ·rw [if_neg (by omega)] at this
  simp at this
def gat (l d:List Int):List Int:=l.map fun k=>d.getD (k - 1).toNat 0
def sca (l d:List Int):List Int:=scG l l.length (fun m=>d.getD m 0) 0 l.length
theorem gat_len (l d:List Int):(gat l d).length=l.length:=by simp [gat]
theorem sca_len (l d:List Int):(sca l d).length=l.length:=scG_len _ _ _ _ _
theorem gat_get {l d:List Int} {i:Nat} {k:Int} (h:l[i]? = some k):(gat l d)[i]? = some (d.getD (k - 1).toNat 0):=by unfold gat; rw [List.getElem?_map,h]; rfl
theorem sca_get {l d:List Int} (h:okP l l.length l.length) {j:Nat} (hj:j<l.length):(sca l d)[j]? = some (d.getD (posL l ((j:Int)+1)) 0):=by
 unfold sca
 rw [scG_get _ _ _ _ _ hj,if_pos (okP_all rfl h j hj)]
theorem sca_any {l d:List Int} (h:okP l l.length l.length) (v:Int):scG l l.length (fun m=>d.getD m 0) v l.length=sca l d:=by
 apply List.ext_getElem?
 intro j
 by_cases hj:j<l.length
 ·rw [sca_get h hj,scG_get _ _ _ _ _ hj,if_pos (okP_all rfl h j hj)]
 ·rw [List.getElem?_eq_none (by rw [scG_len]; omega),List.getElem?_eq_none (by rw [sca_len]; omega)]
theorem gat_sca {l d:List Int} (h:okP l l.length l.length) (hd:d.length=l.length):gat l (sca l d)=d:=by
 apply List.ext_getElem?
 intro i
 by_cases hi:i<l.length
 ·obtain ⟨k,hk⟩:∃ k,l[i]? = some k:=⟨_,List.getElem?_eq_getElem hi⟩
  obtain ⟨h1,h2,h3⟩:=h i k hi hk
  rw [gat_get hk,List.getD_eq_getElem?_getD,sca_get h (by omega),Option.getD_some,show (((k - 1).toNat:Nat):Int)+1=k from by omega,h3,List.getD_eq_getElem?_getD,List.getElem?_eq_getElem (by omega)]
  rfl
 ·rw [List.getElem?_eq_none (by rw [gat_len]; omega),List.getElem?_eq_none (by omega)]
theorem sca_gat {l d:List Int} (h:okP l l.length l.length) (hd:d.length=l.length):sca l (gat l d)=d:=by
 apply List.ext_getElem?
 intro j
 by_cases hj:j<l.length
 ·have hp:=okP_all rfl h j hj
  have hg:=posL_get hp
  rw [sca_get h hj,List.getD_eq_getElem?_getD,gat_get hg,Option.getD_some,List.getD_eq_getElem?_getD,show ((j:Int)+1 - 1).toNat=j from by omega,List.getElem?_eq_getElem (by omega)]
  rfl
 ·rw [List.getElem?_eq_none (by rw [sca_len]; omega),List.getElem?_eq_none (by omega)]
theorem prodL_set:∀ (s:List Int) (m:Nat) (v:Int),s[m]? = some 1→prodL (s.set m v)=prodL s * v
 | [],m,v,h=>by simp at h
 | z::s,0,v,h=>by
   simp at h; subst h
   simp only [List.set_cons_zero,prodL_cons]
   rw [Int.one_mul,Int.mul_comm]
 | z::s,m+1,v,h=>by
   simp only [List.set_cons_succ,prodL_cons]
   rw [prodL_set s m v (by simpa using h),Int.mul_assoc]
theorem prodL_ones (n:Nat):prodL (List.replicate n 1)=1:=by
 induction n with
 | zero=>rfl
 | succ n ih=>rw [List.replicate_succ,prodL_cons,ih]; rfl
theorem sca_prod {l d:List Int} (h:okP l l.length l.length) (hd:d.length=l.length):prodL (sca l d)=prodL d:=by
 have key:∀ i,i≤l.length→prodL (scG l l.length (fun m=>d.getD m 0) 1 i)=prodL (d.take i):=by
  intro i
  induction i with
  | zero=>intro _; rw [scG_zero,prodL_ones]; rfl
  | succ i ih =>
    intro hi
    obtain ⟨k,hk⟩:∃ k,l[i]? = some k:=⟨_,List.getElem?_eq_getElem (by omega)⟩
    obtain ⟨h1,h2,h3⟩:=h i k (by omega) hk
    obtain ⟨y,hy⟩:∃ y,d[i]? = some y:=⟨_,List.getElem?_eq_getElem (by omega)⟩
    have hat:=scG_at (l:=l) (i:=i) (fun m=>d.getD m 0) 1 h1 h2
    rw [h3,if_neg (by omega)] at hat
    rw [← scG_step (fun m=>d.getD m 0) 1 hk h1 h2 h3,prodL_set _ _ _ hat,ih (by omega),takeA_snoc hy,prodL_append]
    simp [prodL,List.getD_eq_getElem?_getD,hy]
 have:=key l.length (Nat.le_refl _)
 rw [sca_any h,List.take_of_length_le (by omega)] at this
 exact this
theorem dig_ok:∀ (s d:List Int),d.length=s.length→(∀ (m:Nat) (z y:Int),s[m]? = some z→d[m]? = some y→0≤y∧y<z)→∃ N:Nat,(N:Int)<prodL s∧d=(digR s (N:Int)).2
 | [],[],_,_=>⟨0,by simp [prodL],rfl⟩
 | [],_::_,h,_=>by simp at h
 | _::_,[],h,_=>by simp at h
 | z::s,y::d,hl,h=>by
   obtain ⟨N,h1,h2⟩:=dig_ok s d (by simpa using hl) (fun m z y hz hy=>h (m+1) z y (by simpa using hz) (by simpa using hy))
   obtain ⟨hy0,hy1⟩:=h 0 z y rfl rfl
   have hpos:0<prodL s:=by omega
   have hp:∀ x ∈ s,0<x:=fun x hx=>by
    obtain ⟨m,hm⟩:=List.mem_iff_getElem?.1 hx
    have hml:=(List.getElem?_eq_some_iff.1 hm).1
    obtain ⟨w,hw⟩:∃ w,d[m]? = some w:=⟨_,List.getElem?_eq_getElem (by simp at hl; omega)⟩
    have:=h (m+1) x w (by simpa using hm) (by simpa using hw)
    omega
   have hN:((y.toNat * (prodL s).toNat+N:Nat):Int)=y * prodL s+N:=by
    rw [Int.natCast_add,Int.natCast_mul,Int.toNat_of_nonneg hy0,Int.toNat_of_nonneg (by omega)]
   refine ⟨y.toNat * (prodL s).toNat+N,?_,?_⟩
   ·rw [hN,prodL_cons]
    have:=Int.mul_le_mul_of_nonneg_right (show y+1≤z by omega) (Int.le_of_lt hpos)
    rw [Int.add_mul,Int.one_mul] at this
    omega
   ·rw [hN]
    have e1:(digR s (y * prodL s+N)).1=y:=by
     rw [digR_fst s _ hp,Int.add_comm,Int.add_mul_ediv_right _ _ (by omega),Int.ediv_eq_zero_of_lt (by omega) h1,Int.zero_add]
    have e2:(digR s (y * prodL s+N)).2=(digR s (N:Int)).2:=digR_mod s _ _ hp (by rw [Int.add_comm,Int.add_mul_emod_self_right])
    show y::d=(digR s (y * prodL s+N)).1 % z::(digR s (y * prodL s+N)).2
    rw [e1,e2,← h2,Int.emod_eq_of_lt hy0 hy1]
theorem dig_lt:∀ (s:List Int) (n:Int),(∀ z ∈ s,0<z)→∀ (m:Nat) (z y:Int),s[m]? = some z→(digR s n).2[m]? = some y→0≤y∧y<z
 | [],n,_,m,z,y,h,_=>by simp at h
 | x::s,n,hp,m,z,y,hz,hy=>by
   have hx:=hp x (by simp)
   have hd:(digR (x::s) n).2=(digR s n).1 % x::(digR s n).2:=rfl
   rw [hd] at hy
   cases m with
   | zero =>
     simp at hz hy
     subst hz; subst hy
     exact ⟨Int.emod_nonneg _ (by omega),Int.emod_lt_of_pos _ hx⟩
   | succ m=>exact dig_lt s n (fun w hw=>hp w (by simp [hw])) m z y (by simpa using hz) (by simpa using hy)
theorem cloneO_m (es:List (List AV)) (hn:0<es.length) (hb:es.length≤100000000000):AMut Tryz.prog 71 [.own 0] [(0,some ⟨true,false,3,1,es⟩)] 1 (.own 1) [(1,some ⟨true,false,3,1,es⟩),(0,some ⟨true,false,3,1,es⟩)] 2:=by
 refine amut_of code_slices_Clone_int (by simp [fn_slices_Clone_int]) fun C hC => ?_
 refine walk2 ?_
 refine aw_reg (rrun2 ?_)
 refine r_eqvO Tryz.underlying23 hn ?_
 refine rrun2 ?_
 refine rg_nil ⟨rfl,?_⟩
 refine walk2 ?_
 exact fin_m [(1,2)]
theorem cloneO0_m:AMut Tryz.prog 71 [.own 0] [(0,some ⟨true,false,3,1,[]⟩)] 1 .any [(0,some ⟨true,false,3,1,[]⟩)] 1:=by
 refine amut_of code_slices_Clone_int (by simp [fn_slices_Clone_int]) fun C hC => ?_
 refine aw_postW ?_
 refine walk2 ?_
 refine aw_valO 0 0 rfl rfl rfl fun a cap => ?_
 cases a with
 | none =>
   refine aw_reg (rrun2 ?_)
   refine r_eqvS Tryz.underlying23 (rrun2 ?_)
   refine rg_nil ⟨rfl,?_⟩
   refine walk2 ?_
   exact ⟨_,weak_any 2,fin_m []⟩
 | some x =>
   refine aw_reg (rrun2 ?_)
   refine r_eqvS Tryz.underlying23 (rrun2 ?_)
   refine rg_nil ⟨rfl,?_⟩
   refine walk2 ?_
   refine aw_say 0 rfl (b:=.sl 1 []) (fun E w v h=>⟨some x,cap,[],h,Nat.zero_le _,fun h=>(by cases h),Nat.zero_le _,fun i v h=>(by cases h),fun u h=>(by cases h),rfl⟩) ?_
   refine walk2 ?_
   exact ⟨_,weak_any 2,fin_m []⟩
theorem perm2_m (l d:List Int) (hl:d.length=l.length) (h6:l.length≤6) (hok:okP l l.length l.length) :
 AMut Tryz.prog 70 [.own 0,.ep 1 [[.sl 1 (intsA .i64 l)]] 0 0] [(0,some ⟨true,false,3,1,intsA .i64 d⟩)] 1 (.tup []) [(0,some ⟨true,false,3,1,intsA .i64 (gat l d)⟩)] 1:=by
 have ls:=intsA_len .i64 l
 have ld:=intsA_len .i64 d
 by_cases h0:l.length=0
 ·have e1:l=[]:=List.eq_nil_of_length_eq_zero h0
  have e2:d=[]:=List.eq_nil_of_length_eq_zero (by omega)
  subst e1; subst e2
  have c1:AMut Tryz.prog 71 [.own 0] [(0,some ⟨true,false,3,1,intsA .i64 []⟩)] 1 .any [(0,some ⟨true,false,3,1,intsA .i64 []⟩)] 1:=cloneO0_m
  have ls:(((intsA .i64 []).length:Nat):Int)=0:=rfl
  refine amut_of code_turn_Permute_2 (by simp [fn_turn_Permute_2]) fun C hC => ?_
  refine walk2 ?_
  refine aw_reg (rrun2 ?_)
  refine r_callM [(0,0)] c1 ?_
  refine rrun2 ?_
  refine rg_nil ⟨rfl,?_⟩
  refine walk2 ?_
  refine aw_loopB [] [0] (fun i:Nat=>[(9,.lit (.int .i64 ((0:Nat):Int))),(10,.lit (.int .i64 ((0:Nat):Int)))]) (fun _=>[]) 1 (fun _=>True) (fun _=>0) 0 trivial ?_
  rintro i _
  dsimp only [List.cons_append,List.nil_append]
  refine walk2 ?_
  exact fin_m []
 ·have c1:=cloneO_m (intsA .i64 d) (by omega) (by omega)
  refine amut_of code_turn_Permute_2 (by simp [fn_turn_Permute_2]) fun C hC => ?_
  refine walk2 ?_
  refine aw_reg (rrun2 ?_)
  refine r_callN [(0,0)] c1 ?_
  refine rrun2 ?_
  refine rg_nil ⟨rfl,?_⟩
  refine walk2 ?_
  refine aw_loopB [0,3,8,9] [1] (fun i:Nat=>[(10,.lit (.int .i64 i))]) (fun i=>[(0,some ⟨true,false,3,1,intsA .i64 ((gat l d).take i++d.drop i)⟩)]) 2
   (fun i=>i≤l.length) (fun i=>l.length - i) 0 (Nat.zero_le _) ?_
  rintro i hi
  dsimp only [List.cons_append,List.nil_append]
  by_cases hil:i<l.length
  ·obtain ⟨k,hk⟩:∃ k,l[i]? = some k:=⟨_,List.getElem?_eq_getElem hil⟩
   obtain ⟨h1,h2,h3⟩:=hok i k hil hk
   obtain ⟨y,hy⟩:∃ y,d[(k - 1).toNat]? = some y:=⟨_,List.getElem?_eq_getElem (by omega)⟩
   obtain ⟨w,hw⟩:∃ w,d[i]? = some w:=⟨_,List.getElem?_eq_getElem (by omega)⟩
   have hg:=gat_get (d:=d) hk
   rw [List.getD_eq_getElem?_getD,hy,Option.getD_some] at hg
   have hgl:=gat_len l d
   have hcl:((gat l d).take i++d.drop i).length=l.length:=by simp; omega
   have hcur:((gat l d).take i++d.drop i)[i]? = some w:=by
    rw [List.getElem?_append_right (by simp; omega),List.length_take,List.getElem?_drop,← hw]
    congr 1; omega
   have hset:((gat l d).take i++d.drop i).set i y=(gat l d).take (i+1)++d.drop (i+1):=by
    rw [takeA_snoc hg,dropA_cons hw,List.set_append,if_neg (by simp; omega),List.append_assoc]
    congr 1
    rw [List.length_take,show i - min i (gat l d).length=0 from by omega]
    rfl
   generalize (gat l d).take i++d.drop i=cur at hcl hcur hset ⊢
   have lc:=intsA_len .i64 cur
   have hkk:(intsA .i64 l)[((i:Nat):Int).toNat]? = some [.lit (.int .i64 k)]:=int_at hk
   have hyk:(intsA .i64 d)[(k - 1).toNat]? = some [.lit (.int .i64 y)]:=int_at hy
   have hck:(intsA .i64 cur)[((i:Nat):Int).toNat]? = some [.lit (.int .i64 w)]:=int_at hcur
   have hst:(intsA .i64 cur).set ((i:Nat):Int).toNat [.lit (.int .i64 y)]=intsA .i64 ((gat l d).take (i+1)++d.drop (i+1)):=by rw [← hset]; exact intsA_set .i64 cur i y
   clear hg hset
   refine walk2 ?_
   exact ⟨i+1,by omega,by omega,wkR hC.m [] (by rw [← hst]; rfl)⟩
  ·have:i=l.length:=by omega
   subst this
   have e:(gat l d).take l.length++d.drop l.length=gat l d:=by
    rw [List.take_of_length_le (by rw [gat_len]; omega),List.drop_eq_nil_of_le (by omega),List.append_nil]
   rw [e]
   refine walk2 ?_
   exact fin_m []
def perN (l sh:List Int) (j:Nat):Nat:=(idx sh (gat l (digR (sca l sh) (j:Int)).2)).1.toNat
theorem sca_small {l sh:List Int} (h:okP l l.length l.length) (hl:l.length=sh.length) (hs:Small sh):Small (sca l sh):=fun z hz=>by
 obtain ⟨j,hj⟩:=List.mem_iff_getElem?.1 hz
 have hjl:=(List.getElem?_eq_some_iff.1 hj).1
 rw [sca_len] at hjl
 rw [sca_get h hjl] at hj
 have hp:=okP_all rfl h j hjl
 obtain ⟨y,hy⟩:∃ y,sh[posL l ((j:Int)+1)]? = some y:=⟨_,List.getElem?_eq_getElem (by omega)⟩
 rw [List.getD_eq_getElem?_getD,hy] at hj
 simp at hj
 subst hj
 exact hs y (List.mem_of_getElem? hy)
structure PerF (l:List Int) (A:Arr):Prop where
 e:(cnt (sca l A.shape)).2=0
 c:(cnt (sca l A.shape)).1=A.cells.length
 n:∀ j,j<A.cells.length→idx A.shape (gat l (digR (sca l A.shape) (j:Int)).2)=(((perN l A.shape j:Nat):Int),true)∧perN l A.shape j<A.cells.length∧gat l (digR (sca l A.shape) (j:Int)).2=(digR A.shape ((perN l A.shape j:Nat):Int)).2
 m:∀ i,i<A.cells.length→∃ j,j<A.cells.length∧perN l A.shape j=i∧sca l (digR A.shape (i:Int)).2=(digR (sca l A.shape) (j:Int)).2∧∀ r,r<A.cells.length→perN l A.shape r=i→r=j
 p:0<A.cells.length→(∀ z ∈ A.shape,0<z)∧∀ z ∈ sca l A.shape,0<z
theorem per_facts {A:Arr} (hA:okJ A) {l:List Int} (hl:l.length=A.shape.length) (h:okP l l.length l.length):PerF l A:=by
 have hpr:=sca_prod (d:=A.shape) h hl.symm
 have hss:=sca_small h hl hA.small
 have hcl:=hA.cells
 have hp:=hA.prod
 have h6:=hA.len
 have he:(cnt (sca l A.shape)).2=0:=cnt_ok (by rw [sca_len]; omega) hss (by rw [hpr,hp]; omega)
 have hc:(cnt (sca l A.shape)).1=A.cells.length:=by rw [cnt_prod he,hpr,hp]
 have hpos:0<A.cells.length→(∀ z ∈ A.shape,0<z)∧∀ z ∈ sca l A.shape,0<z:=fun h0=>⟨pos_of_prod hA.small (by omega),pos_of_prod hss (by omega)⟩
 have hn:∀ j,j<A.cells.length→idx A.shape (gat l (digR (sca l A.shape) (j:Int)).2)=(((perN l A.shape j:Nat):Int),true)∧perN l A.shape j<A.cells.length∧gat l (digR (sca l A.shape) (j:Int)).2=(digR A.shape ((perN l A.shape j:Nat):Int)).2:=fun j hj=>by
  obtain ⟨p1,p2⟩:=hpos (by omega)
  obtain ⟨N,hN,hd⟩:=dig_ok A.shape (gat l (digR (sca l A.shape) (j:Int)).2) (by rw [gat_len,hl]) (fun m z y hz hy=>by
   have hml:=(List.getElem?_eq_some_iff.1 hz).1
   obtain ⟨k,hk⟩:∃ k,l[m]? = some k:=⟨_,List.getElem?_eq_getElem (by omega)⟩
   obtain ⟨k1,k2,k3⟩:=h m k (by omega) hk
   rw [gat_get hk] at hy
   obtain ⟨w,hw⟩:∃ w,(digR (sca l A.shape) (j:Int)).2[(k - 1).toNat]? = some w:=⟨_,List.getElem?_eq_getElem (by rw [digR_len,sca_len]; omega)⟩
   rw [List.getD_eq_getElem?_getD,hw] at hy
   simp at hy
   subst hy
   have hs:=sca_get (d:=A.shape) h (j:=(k - 1).toNat) (by omega)
   rw [show (((k - 1).toNat:Nat):Int)+1=k from by omega,k3,List.getD_eq_getElem?_getD,hz,Option.getD_some] at hs
   exact dig_lt _ _ p2 _ _ _ hs hw)
  have hix:idx A.shape (gat l (digR (sca l A.shape) (j:Int)).2)=((N:Int),true):=by rw [hd]; exact idx_digR hA.e p1 hN
  have hNe:perN l A.shape j=N:=by unfold perN; rw [hix]; simp
  rw [hNe]
  exact ⟨hix,by omega,hd⟩
 have hinj:∀ r j,r<A.cells.length→j<A.cells.length→perN l A.shape r=perN l A.shape j→r=j:=fun r j hr hj e=>by
  obtain ⟨_,p2⟩:=hpos (by omega)
  have e1:=(hn r hr).2.2
  have e2:=(hn j hj).2.2
  rw [e,← e2] at e1
  have e3:=congrArg (sca l) e1
  rw [sca_gat h (by rw [digR_len,sca_len]),sca_gat h (by rw [digR_len,sca_len])] at e3
  have:=digR_inj p2 (m:=(r:Int)) (n:=(j:Int)) (by omega) (by rw [hpr,hp]; omega) (by omega) (by rw [hpr,hp]; omega) e3
  omega
 refine ⟨he,hc,hn,fun i hi => ?_,hpos⟩
 obtain ⟨p1,p2⟩:=hpos (by omega)
 obtain ⟨M,hM,hd⟩:=dig_ok (sca l A.shape) (sca l (digR A.shape (i:Int)).2) (by rw [sca_len,sca_len]) (fun m z y hz hy=>by
  have hml:=(List.getElem?_eq_some_iff.1 hz).1
  rw [sca_len] at hml
  have hpp:=okP_all rfl h m hml
  rw [sca_get h hml] at hz hy
  obtain ⟨w,hw⟩:∃ w,A.shape[posL l ((m:Int)+1)]? = some w:=⟨_,List.getElem?_eq_getElem (by omega)⟩
  obtain ⟨v,hv⟩:∃ v,(digR A.shape (i:Int)).2[posL l ((m:Int)+1)]? = some v:=⟨_,List.getElem?_eq_getElem (by rw [digR_len]; omega)⟩
  rw [List.getD_eq_getElem?_getD,hw] at hz
  rw [List.getD_eq_getElem?_getD,hv] at hy
  simp at hz hy
  subst hz; subst hy
  exact dig_lt _ _ p1 _ _ _ hw hv)
 have hMl:M<A.cells.length:=by rw [hpr,hp] at hM; omega
 have hNM:perN l A.shape M=i:=by
  have e1:=(hn M hMl).2.2
  rw [← hd,gat_sca h (by rw [digR_len]; omega)] at e1
  have:=digR_inj p1 (m:=(i:Int)) (n:=((perN l A.shape M:Nat):Int)) (by omega) (by rw [hp]; omega) (by omega) (by rw [hp]; have:=(hn M hMl).2.1; omega) e1
  omega
 exact ⟨M,hMl,hNM,hd,fun r hr e=>hinj r M hr hMl (by rw [e,hNM])⟩
def okB (l:List Int) (n:Nat):Bool:=(List.range l.length).all fun m=>match l[m]? with|some k=>decide (1≤k) && (decide (k≤n) && (posL l k == m))|none=>true
theorem okB_iff {l:List Int} {n:Nat}:okB l n=true↔okP l n l.length:=by
 unfold okB okP
 rw [List.all_eq_true]
 constructor
 ·intro h m k hm hk
  have:=h m (List.mem_range.2 hm)
  rw [hk] at this
  simpa using this
 ·intro h m hm
  have hm:=List.mem_range.1 hm
  obtain ⟨k,hk⟩:∃ k,l[m]? = some k:=⟨_,List.getElem?_eq_getElem hm⟩
  rw [hk]
  simpa using h m k hm hk
def perP (K A:Arr):Arr × Int:=if (intsR K).2≠0 then (.mk 0 [] [],(intsR K).2) else if (intsR K).1.length≠A.shape.length then (.mk 0 [] [],4)
 else if okB (intsR K).1 (intsR K).1.length then (.mk (A.s ||| totA K) (sca (intsR K).1 A.shape) (permL A.cells (perN (intsR K).1 A.shape)),0) else (.mk 0 [] [],3)
theorem rep_step (n i:Nat) (h:i<n):(List.replicate i (-1:Int)++List.replicate (n - i) 0).set i (-1)=List.replicate (i+1) (-1)++List.replicate (n - (i+1)) 0:=by
 rw [List.set_append,if_neg (by simp),List.length_replicate,Nat.sub_self,show n - i=(n - (i+1))+1 from by omega,List.replicate_succ,List.set_cons_zero,List.replicate_succ',List.append_assoc]
 rfl
theorem permute_a (K A:Arr) (hK:arrOK K) (kK:okJ K) (hA:okJ A):ACalls Tryz.prog 23 [.agg (arrV K),.agg (arrV A)] (.tup [.agg (arrV (perP K A).1),.lit (.int .i64 (perP K A).2)]):=by
 have hl6:=hA.len
 have c0:=arrInts_a K hK kK.ok
 have ls:=intsA_len .i64 A.shape
 have lK:=intsA_len .i64 (intsR K).1
 have hkl:(intsR K).1.length≤1000000000:=by
  have:=kK.cells
  unfold intsR
  split
  ·simp
  ·split
   ·rename_i l hl; rw [intsF_len hl]; simp; omega
   ·simp
 unfold perP
 by_cases h0:(intsR K).2=0
 case neg =>
  rw [if_pos h0]
  generalize (intsR K).1=l at *
  generalize (intsR K).2=e at *
  refine acalls_defer code_turn_Permute (by simp [fn_turn_Permute]) idle_turn_Permute fun C hC => ?_
  refine walk2 ?_
  intro ds
  refine walk2 ?_
  exact fin
 rw [if_neg (by simp [h0])]
 rw [h0] at c0
 have htl:=totA_lt K kK.ok
 have c1:=total_a K kK.ok
 generalize totA K=T at *
 generalize (intsR K).1=l at *
 by_cases hll:l.length=A.shape.length
 case neg =>
  rw [if_pos hll]
  have hll':¬ (l.length:Int)=A.shape.length:=by omega
  refine acalls_defer code_turn_Permute (by simp [fn_turn_Permute]) idle_turn_Permute fun C hC => ?_
  refine walk2 ?_
  intro ds
  refine walk2 ?_
  exact fin
 rw [if_neg (by simp [hll])]
 have hll':(l.length:Int)=A.shape.length:=by omega
 have c2:=raise_a A T hA.ok.parts.1 htl
 have hmk:List.replicate ((l.length:Nat):Int).toNat [AV.lit (.int .i64 0)]=intsA .i64 (List.replicate 0 (-1)++List.replicate (l.length - 0) 0):=by
  rw [Int.toNat_natCast,intsA_rep]; simp
 have hc4:okP l l.length l.length→ACalls Tryz.prog 67 [.agg (arrV (raiA A T)),.sl 1 (intsA .i64 (sca l A.shape)),.fn 70 [] [.ep 1 [[.sl 1 (intsA .i64 l)]] 0 0]] (.agg (arrV (.mk (A.s ||| T) (sca l A.shape) (permL A.cells (perN l A.shape))))):=fun hok=>by
  have F:=per_facts hA hll hok
  have c4:=moved1_a (raiA A T) (okJ_raise hA htl).ok (sca l A.shape) 70 (.sl 1 (intsA .i64 l)) (gat l) F.e F.c hA.cells
   (fun i hi=>perm2_m l _ (by rw [digR_len,sca_len]) (by omega) hok)
   (fun i hi=>⟨_,(F.n i hi).2.1,(F.n i hi).1,by rw [gat_len]; omega⟩)
  rw [movedL_eq (A:=raiA A T) (p:=perN l A.shape) (fun i hi=>(F.n i hi).1)] at c4
  exact c4
 refine acalls_defer code_turn_Permute (by simp [fn_turn_Permute]) idle_turn_Permute fun C hC => ?_
 refine walk2 ?_
 intro ds
 refine walk2 ?_
 refine aw_slotZ 32 (.lit (.int .i64 (l.length:Nat))) (by show AV.lit (.int .i64 (((List.replicate ((l.length:Nat):Int).toNat [AV.lit (.int .i64 0)]).length:Nat):Int))=_; rw [List.length_replicate,Int.toNat_natCast]) ?_
 refine aw_keepN [2,3,4,5,6,7,32,33] [0,1,2,3,4,5] 6 (kt:=[(2,.optr 0 0 0),(3,.optr 1 0 0),(4,.optr 2 0 0),(5,.optr 3 0 0),(6,.optr 4 0 0),(7,.own 5),(32,.lit (.int .i64 (l.length:Nat))),(33,.lit (.int .i64 ((0:Nat):Int)))])
  (kh:=[(0,some ⟨false,false,26,3,[arrV K]⟩),(1,some ⟨false,false,26,3,[arrV A]⟩),(2,some ⟨false,false,26,3,[[.lit (.int .u64 0),.lit (.slice none 0 0),.lit (.slice none 0 0)]]⟩),(3,some ⟨false,false,29,1,[[.lit (.int .i64 0)]]⟩),(4,some ⟨false,false,23,1,[[.sl 1 (intsA .i64 l)]]⟩),
   (5,some ⟨true,false,3,1,intsA .i64 (List.replicate 0 (-1)++List.replicate (l.length - 0) 0)⟩)]) ?_ (eh:=by rw [← hmk]; rfl)
 refine aw_loopB [2,3,4,5,6,7,32] [0,1,2,3,4] (fun i:Nat=>[(33,.lit (.int .i64 i))]) (fun i=>[(5,some ⟨true,false,3,1,intsA .i64 (List.replicate i (-1)++List.replicate (l.length - i) 0)⟩)]) 6
  (fun i=>i≤l.length) (fun i=>l.length - i) 0 (Nat.zero_le _) ?_
 rintro i hi
 dsimp only [List.cons_append,List.nil_append]
 by_cases hil:i<l.length
 ·have hcl:(List.replicate i (-1:Int)++List.replicate (l.length - i) 0).length=l.length:=by simp; omega
  have hcur:(List.replicate i (-1:Int)++List.replicate (l.length - i) 0)[i]? = some 0:=by
   rw [List.getElem?_append_right (by simp),List.length_replicate,Nat.sub_self,List.getElem?_replicate,if_pos (by omega)]
  have hset:=rep_step l.length i hil
  generalize List.replicate i (-1:Int)++List.replicate (l.length - i) 0=cur at hcl hcur hset ⊢
  have lc:=intsA_len .i64 cur
  have hck:(intsA .i64 cur)[((i:Nat):Int).toNat]? = some [.lit (.int .i64 0)]:=int_at hcur
  have hst:(intsA .i64 cur).set ((i:Nat):Int).toNat [.lit (.int .i64 (-1))]=intsA .i64 (List.replicate (i+1) (-1)++List.replicate (l.length - (i+1)) 0):=by rw [← hset]; exact intsA_set .i64 cur i (-1)
  clear hset hc4 hmk
  refine walk2 ?_
  exact ⟨i+1,by omega,by omega,wkR hC.m [] (by rw [← hst]; rfl)⟩
 ·have:i=l.length:=by omega
  subst this
  have e0:List.replicate l.length (-1:Int)++List.replicate (l.length - l.length) 0=scG l l.length (fun m=>A.shape.getD m 0) (-1) 0:=by rw [scG_zero,Nat.sub_self]; simp
  rw [e0]
  refine walk2 ?_
  refine aw_loopB [2,3,4,5,6,7,40,41] [0,1,2,3,4] (fun i:Nat=>[(42,.lit (.int .i64 i))]) (fun i=>[(5,some ⟨true,false,3,1,intsA .i64 (scG l l.length (fun m=>A.shape.getD m 0) (-1) i)⟩)]) 6
   (fun i=>i≤l.length∧okP l l.length i) (fun i=>l.length - i) 0 ⟨Nat.zero_le _,fun m k hm=>absurd hm (Nat.not_lt_zero _)⟩ ?_
  rintro i ⟨hi,hok⟩
  dsimp only [List.cons_append,List.nil_append]
  by_cases hil:i<l.length
  ·obtain ⟨k,hk⟩:∃ k,l[i]? = some k:=⟨_,List.getElem?_eq_getElem hil⟩
   have hkk:(intsA .i64 l)[((i:Nat):Int).toNat]? = some [.lit (.int .i64 k)]:=int_at hk
   obtain ⟨y,hy⟩:∃ y,A.shape[i]? = some y:=⟨_,List.getElem?_eq_getElem (by omega)⟩
   have hyk:(intsA .i64 A.shape)[((i:Nat):Int).toNat]? = some [.lit (.int .i64 y)]:=int_at hy
   have hbad:¬ (1≤k∧k≤l.length∧posL l k=i)→okB l l.length=false:=fun h=>by
    cases hb:okB l l.length
    ·rfl
    ·exact absurd (okB_iff.1 hb i k hil hk) h
   have hgl:=scG_len l l.length (fun m=>A.shape.getD m 0) (-1) i
   have lg:=intsA_len .i64 (scG l l.length (fun m=>A.shape.getD m 0) (-1) i)
   by_cases h1:k<1
   ·rw [hbad (by omega)]
    clear hc4
    refine walk2 ?_
    exact fin
   ·by_cases h2:k > l.length
    ·rw [hbad (by omega)]
     clear hc4
     refine walk2 ?_
     exact fin
    ·have hat:=scG_at (l:=l) (i:=i) (fun m=>A.shape.getD m 0) (-1) (show 1≤k by omega) (show k≤l.length by omega)
     have hple:=posL_le hk
     by_cases h3:posL l k<i
     ·rw [if_pos h3] at hat
      obtain ⟨v,hv⟩:∃ v,A.shape[posL l k]? = some v:=⟨_,List.getElem?_eq_getElem (by omega)⟩
      rw [List.getD_eq_getElem?_getD,hv,Option.getD_some] at hat
      have hv0:=(hA.small v (List.mem_of_getElem? hv)).1
      have hatk:(intsA .i64 (scG l l.length (fun m=>A.shape.getD m 0) (-1) i))[(k - 1).toNat]? = some [.lit (.int .i64 v)]:=int_at hat
      rw [hbad (by omega)]
      generalize scG l l.length (fun m=>A.shape.getD m 0) (-1) i=G at *
      clear hc4
      refine walk2 ?_
      exact fin
     ·rw [if_neg h3] at hat
      have hatk:(intsA .i64 (scG l l.length (fun m=>A.shape.getD m 0) (-1) i))[(k - 1).toNat]? = some [.lit (.int .i64 (-1))]:=int_at hat
      have hst0:=scG_step (l:=l) (n:=l.length) (i:=i) (fun m=>A.shape.getD m 0) (-1) hk (by omega) (by omega) (by omega)
      rw [List.getD_eq_getElem?_getD,hy,Option.getD_some] at hst0
      have hst:=intsA_set .i64 (scG l l.length (fun m=>A.shape.getD m 0) (-1) i) (k - 1).toNat y
      rw [hst0] at hst
      generalize scG l l.length (fun m=>A.shape.getD m 0) (-1) i=G at hgl lg hatk hst ⊢
      clear hc4 hat hst0
      refine walk2 ?_
      exact ⟨i+1,by omega,⟨by omega,fun m x hm hx=>by
       by_cases hmi:m=i
       ·subst hmi
        rw [hk] at hx
        simp only [Option.some.injEq] at hx
        subst hx
        omega
       ·exact hok m x (by omega) hx⟩,wkR hC.m [] (by rw [← hst]; rfl)⟩
  ·have:i=l.length:=by omega
   subst this
   have c4:=hc4 hok
   rw [okB_iff.2 hok,sca_any hok]
   clear hc4
   generalize (Arr.mk (A.s ||| T) (sca l A.shape) (permL A.cells (perN l A.shape)))=Z at c4 ⊢
   generalize sca l A.shape=S at c4 ⊢
   generalize raiA A T=R at c2 c4
   refine walk2 ?_
   refine aw_freeze 4 rfl ?_
   refine aw_freeze 5 rfl ?_
   refine aw_view 7 rfl rfl ?_
   refine walk2 ?_
   exact fin
def upR (l:Nat) (p q:Arr × Int):Prop:=p.2=q.2∧upA l p.1 q.1
theorem upR_err (l:Nat) (A:Arr) (e:Int):upR l (A,e) (A,e):=⟨rfl,upA_refl l _⟩
theorem upA.sh {l:Nat} {A B:Arr} (h:upA l A B):A.shape=B.shape:=(upA_iff.1 h).2.1
theorem upA.cs {l:Nat} {A B:Arr} (h:upA l A B):upCs l A.cells B.cells:=(upA_iff.1 h).2.2
theorem upA.sl {l:Nat} {A B:Arr} (h:upA l A B):upL l A.s B.s:=(upA_iff.1 h).1
theorem upA.len {l:Nat} {A B:Arr} (h:upA l A B):A.cells.length=B.cells.length:=upCs_len h.cs
theorem upA_mk {l s s':Nat} {sh:List Int} {cs ds:List Cell} (h:upL l s s') (g:upCs l cs ds):upA l (.mk s sh cs) (.mk s' sh ds):=by rw [upA]; exact ⟨h,rfl,g⟩
theorem upR_ok {l s s':Nat} {sh:List Int} {cs ds:List Cell} (h:upL l s s') (g:upCs l cs ds):upR l (.mk s sh cs,0) (.mk s' sh ds,0):=⟨rfl,upA_mk h g⟩
theorem upC.int {l:Nat} {c d:Cell} (h:upC l c d):intOf c=intOf d:=by
 obtain ⟨_,h1,h2,_⟩:=upC_iff.1 h
 unfold intOf; rw [h1,h2]
theorem upCs.ints {l:Nat}:∀ {cs ds:List Cell},upCs l cs ds→intsF cs=intsF ds
 | [],[],_=>rfl
 | c::cs,d::ds,h=>by rw [upCs] at h; rw [intsF,intsF,h.1.int,upCs.ints h.2]
 | [],_::_,h=>by simp [upCs] at h
 | _::_,[],h=>by simp [upCs] at h
theorem upA.ints {l:Nat} {A B:Arr} (h:upA l A B):intsR A=intsR B:=by
 unfold intsR; rw [h.sh,h.cs.ints]
theorem upA.fil {l:Nat} {A B:Arr} (h:upA l A B):upC l (filC A) (filC B):=by
 have hc:=h.cs
 unfold filC
 cases hA:A.cells with
 | nil =>
   cases hB:B.cells with
   | nil=>exact upC_refl l _
   | cons d ds=>rw [hA,hB] at hc; simp [upCs] at hc
 | cons c cs =>
   cases hB:B.cells with
   | nil=>rw [hA,hB] at hc; simp [upCs] at hc
   | cons d ds =>
     rw [hA,hB,upCs] at hc
     obtain ⟨h0,h1,_⟩:=upC_iff.1 hc.1
     dsimp only
     rw [h1]
     split<;>rw [upC]<;>exact ⟨h0,rfl,rfl,rfl,by rw [upAs]; trivial⟩
theorem upCs_range {l:Nat} (n:Nat) (f g:Nat→Cell) (h:∀ i,i<n→upC l (f i) (g i)):upCs l ((List.range n).map f) ((List.range n).map g) :=
 upCs_map f g _ fun i hi=>h i (List.mem_range.1 hi)
theorem upCs_take {l:Nat}:∀ {cs ds:List Cell} (n:Nat),upCs l cs ds→upCs l (cs.take n) (ds.take n)
 | [],[],_,h=>by simpa using h
 | c::cs,d::ds,0,h=>by rw [List.take_zero,List.take_zero,upCs]; trivial
 | c::cs,d::ds,n+1,h=>by rw [upCs] at h; rw [List.take_succ_cons,List.take_succ_cons,upCs]; exact ⟨h.1,upCs_take n h.2⟩
 | [],_::_,_,h=>by simp [upCs] at h
 | _::_,[],_,h=>by simp [upCs] at h
theorem upCs_drop {l:Nat}:∀ {cs ds:List Cell} (n:Nat),upCs l cs ds→upCs l (cs.drop n) (ds.drop n)
 | [],[],_,h=>by simpa using h
 | c::cs,d::ds,0,h=>by simpa using h
 | c::cs,d::ds,n+1,h=>by rw [upCs] at h; rw [List.drop_succ_cons,List.drop_succ_cons]; exact upCs_drop n h.2
 | [],_::_,_,h=>by simp [upCs] at h
 | _::_,[],_,h=>by simp [upCs] at h
theorem upCs_rep {l:Nat} {c d:Cell} (h:upC l c d):∀ n:Nat,upCs l (List.replicate n c) (List.replicate n d)
 | 0=>by rw [List.replicate_zero,List.replicate_zero,upCs]; trivial
 | n+1=>by rw [List.replicate_succ,List.replicate_succ,upCs]; exact ⟨h,upCs_rep h n⟩
theorem upCs_flat {l:Nat} {α:Type} (f g:α→List Cell) (h:∀ x,upCs l (f x) (g x)):∀ xs:List α,upCs l (xs.flatMap f) (xs.flatMap g)
 | []=>by rw [List.flatMap_nil,List.flatMap_nil,upCs]; trivial
 | x::xs=>by rw [List.flatMap_cons,List.flatMap_cons]; exact upCs_app (h x) (upCs_flat f g h xs)
theorem upCs_filter {l:Nat} (p q:Cell→Bool) (h:∀ c d,upC l c d→p c=q d):∀ {cs ds:List Cell},upCs l cs ds→upCs l (cs.filter p) (ds.filter q)
 | [],[],g=>by simpa using g
 | c::cs,d::ds,g=>by
   rw [upCs] at g
   rw [List.filter_cons,List.filter_cons,h c d g.1]
   split
   ·rw [upCs]; exact ⟨g.1,upCs_filter p q h g.2⟩
   ·exact upCs_filter p q h g.2
 | [],_::_,h=>by simp [upCs] at h
 | _::_,[],h=>by simp [upCs] at h
theorem upCs_mapL {l:Nat} (f g:Cell→Cell) (h:∀ c d,upC l c d→upC l (f c) (g d)):∀ {cs ds:List Cell},upCs l cs ds→upCs l (cs.map f) (ds.map g)
 | [],[],g=>by simpa using g
 | c::cs,d::ds,g=>by
   rw [upCs] at g
   rw [List.map_cons,List.map_cons,upCs]; exact ⟨h c d g.1,upCs_mapL f _ h g.2⟩
 | [],_::_,h=>by simp [upCs] at h
 | _::_,[],h=>by simp [upCs] at h
theorem upCs_perm {l:Nat} {cs ds:List Cell} (p:Nat→Nat) (h:upCs l cs ds):upCs l (permL cs p) (permL ds p):=by
 unfold permL; rw [upCs_len h]; exact upCs_range _ _ _ fun i _=>upCs_get h _
theorem upR_res {l:Nat} {N N' A A':Arr} (hN:upA l N N') (hA:upA l A A'):upR l (resP N A) (resP N' A'):=by
 unfold resP
 rw [hN.ints]
 split
 ·exact upR_err ..
 ·split
  ·exact upR_err ..
  ·refine upR_ok (upL_or hA.sl (upA_tot hN)) ?_
   have hf:upCs l (fromP A) (fromP A'):=by
    unfold fromP
    rw [hA.len]
    split
    ·rw [upCs,upCs]; exact ⟨hA.fil,trivial⟩
    ·exact hA.cs
   unfold resL
   rw [upCs_len hf]
   exact upCs_range _ _ _ fun i _=>upCs_get hf _
theorem upA_ax {l:Nat} {N N' A A':Arr} (hN:upA l N N') (hA:upA l A A'):axP N A=axP N' A':=by unfold axP; rw [hN.ints,hA.sh]
theorem upR_cut {l:Nat} {N N' A A':Arr} (hN:upA l N N') (hA:upA l A A') (f g:Int→Int→Int):upR l (cutP f g N A) (cutP f g N' A'):=by
 unfold cutP
 rw [upA_ax hN hA]
 split
 ·exact upR_err ..
 ·split
  ·exact upR_err ..
  ·refine upR_ok (upL_or hA.sl (upA_tot hN)) ?_
   unfold seenL
   refine upCs_range _ _ _ fun i _ => ?_
   unfold seenC
   split
   ·exact upCs_get hA.cs _
   ·exact hA.fil
theorem upR_rows {l:Nat} {N N' A A':Arr} (hN:upA l N N') (hA:upA l A A') (s:List Int) (x:Nat) (F:List Int):upR l (rowsP N A s x F) (rowsP N' A' s x F):=by
 unfold rowsP
 split
 ·exact upR_err ..
 ·refine upR_ok (upL_or hA.sl (upA_tot hN)) ?_
  unfold rowsL
  refine upCs_flat _ _ (fun i => ?_) _
  unfold rowsI
  refine upCs_flat _ _ (fun k => ?_) _
  unfold rowPt
  split
  ·exact upCs_rep hA.fil _
  ·exact upCs_take _ (upCs_drop _ hA.cs)
theorem upR_rot {l:Nat} {N N' A A':Arr} (hN:upA l N N') (hA:upA l A A') (first:Bool):upR l (rotP N A first) (rotP N' A' first):=by
 unfold rotP
 rw [hN.ints]
 split
 ·exact upR_err ..
 ·split
  ·refine ⟨rfl,?_⟩
   dsimp only
   rw [hA.sh]
   refine upA_mk (upL_or hA.sl (upA_tot hN)) ?_
   unfold rotC lenT behT axT
   rw [hA.sh]
   split
   ·exact hA.cs
   ·exact upCs_perm _ hA.cs
  ·exact upR_err ..
theorem upR_per {l:Nat} {N N' A A':Arr} (hN:upA l N N') (hA:upA l A A'):upR l (perP N A) (perP N' A'):=by
 unfold perP
 rw [hN.ints,hA.sh]
 split
 ·exact upR_err ..
 ·split
  ·exact upR_err ..
  ·split
   ·exact upR_ok (upL_or hA.sl (upA_tot hN)) (upCs_perm _ hA.cs)
   ·exact upR_err ..
theorem upR_cat {l:Nat} {N N' A A':Arr} (hN:upA l N N') (hA:upA l A A') (first:Bool):upR l (catP N A first) (catP N' A' first):=by
 have e1:axN N A=axN N' A':=by unfold axN; rw [hN.sh,hA.sh]
 have e2:atN N A first=atN N' A' first:=by unfold atN; rw [e1]
 unfold catP
 rw [e1,e2,hN.sh,hA.sh]
 generalize atN N' A' first=x
 generalize axN N' A'=n
 split
 ·split
  ·exact upR_err ..
  ·refine upR_ok (upL_or hN.sl hA.sl) ?_
   unfold catL
   refine upCs_range _ _ _ fun i _ => ?_
   unfold catC cellP
   split
   ·exact upCs_get hN.cs _
   ·exact upCs_get hA.cs _
 ·exact upR_err ..
theorem upA_mat {l:Nat} {N N' A A':Arr} (hN:upA l N N') (hA:upA l A A') (same:Bool):upA l (matP N A same) (matP N' A' same):=by
 unfold matP numbP
 rw [eqvA_congr (upA_eqv hN) (upA_eqv hA)]
 exact upA_mk (upL_or (upL_refl l 0) (upL_or (upA_tot hN) (upA_tot hA))) (upCs_refl l _)
theorem upC_cont {l:Nat} {c d:Cell} (h:upC l c d):upA l (contP c) (contP d):=by
 obtain ⟨h0,h1,h2,h3,h4⟩:=upC_iff.1 h
 unfold contP
 rw [h1]
 split
 ·cases hc:c.ins with
  | nil =>
    cases hd:d.ins with
    | nil=>exact upA_refl l _
    | cons v vs=>rw [hc,hd] at h4; simp [upAs] at h4
  | cons u us =>
    cases hd:d.ins with
    | nil=>rw [hc,hd] at h4; simp [upAs] at h4
    | cons v vs=>rw [hc,hd,upAs] at h4; exact h4.1
 ·rw [h2,h3]
  refine upA_mk (upL_refl l 0) ?_
  rw [upCs,upCs,upC]
  exact ⟨⟨upL_refl l 0,rfl,rfl,rfl,h4⟩,trivial⟩
theorem upC_two {l:Nat} (two:Arr→Arr→Arr × Int) (ht:∀ A A' B B',upA l A A'→upA l B B'→upR l (two A B) (two A' B')) (f:Int) {x x' y y':Cell} (hx:upC l x x') (hy:upC l y y') :
 upC l (twoC two f x y).1 (twoC two f x' y').1∧(twoC two f x y).2=(twoC two f x' y').2:=by
 obtain ⟨x0,x1,x2,x3,x4⟩:=upC_iff.1 hx
 obtain ⟨y0,y1,y2,y3,y4⟩:=upC_iff.1 hy
 have h:=ht _ _ _ _ (upC_cont hx) (upC_cont hy)
 unfold twoC
 rw [x1,x2,x3,y1,y2,y3]
 split
 ·refine ⟨?_,h.1⟩
  rw [upC,upAs,upAs]
  exact ⟨upL_or x0 y0,rfl,rfl,rfl,h.2,trivial⟩
 ·split
  ·refine ⟨?_,rfl⟩
   rw [upC]; exact ⟨upL_or x0 y0,rfl,rfl,rfl,upAs_refl l _⟩
  ·split
   ·refine ⟨?_,rfl⟩
    rw [upC]; exact ⟨upL_or x0 y0,rfl,rfl,rfl,upAs_refl l _⟩
   ·refine ⟨?_,rfl⟩
    rw [upC]; exact ⟨upL_or x0 y0,rfl,rfl,rfl,upAs_refl l _⟩
theorem upR_twoS {l:Nat} (two:Arr→Arr→Arr × Int) (ht:∀ A A' B B',upA l A A'→upA l B B'→upR l (two A B) (two A' B')) (f:Int) {A A' B B':Arr} (hA:upA l A A') (hB:upA l B B') :
 upR l (twoS two f A B) (twoS two f A' B'):=by
 have hp:∀ {X X':Arr},upA l X X'→∀ i,upC l (pickP X i) (pickP X' i):=fun {X X'} h i=>by
  unfold pickP; rw [h.sh]; exact upCs_get h.cs _
 have hcn:cntP A B=cntP A' B':=by unfold cntP; rw [hA.sh,hA.len,hB.len]
 have he:((List.range (cntP A B)).map fun i=>(twoC two f (pickP A i) (pickP B i)).2)=((List.range (cntP A' B')).map fun i=>(twoC two f (pickP A' i) (pickP B' i)).2):=by
  rw [hcn]; exact List.map_congr_left fun i _=>(upC_two two ht f (hp hA i) (hp hB i)).2
 unfold twoS
 rw [he,hA.sh,hB.sh]
 split
 ·exact upR_err ..
 ·split
  ·exact upR_err ..
  ·split
   ·exact upR_err ..
   ·refine upR_ok (upL_or hA.sl hB.sl) ?_
    rw [hcn]
    exact upCs_range _ _ _ fun i _=>(upC_two two ht f (hp hA i) (hp hB i)).1
theorem upR_two {l:Nat} (f:Int):∀ (d:Nat) (A A' B B':Arr),upA l A A'→upA l B B'→upR l (twoA f d A B) (twoA f d A' B')
 | 0,A,A',B,B',hA,hB=>upR_twoS _ (fun _ _ _ _ _ _=>upR_err ..) f hA hB
 | d+1,A,A',B,B',hA,hB=>upR_twoS _ (fun A A' B B' hA hB=>upR_two f d A A' B B' hA hB) f hA hB
def inP (A B:Arr):Arr × Int :=
 if (intsR A).2≠0 then (zA,(intsR A).2) else
 if (intsR A).1.length≠1 then (zA,4) else
 if B.shape.length≠1 then (zA,5) else
 if (intsR A).1.headD 0<1∨(intsR A).1.headD 0 > B.cells.length then (zA,6) else
 (raiP (unpC (B.cells.getD ((intsR A).1.headD 0 - 1).toNat cellD)) (B.s ||| totA A),0)
noncomputable def moreP (f:Int) (d:Nat) (A B:Arr):Arr × Int :=
 if f=8801 then (matP A B true,0) else if f=8802 then (matP A B false,0) else if f=9075 then indexP A B else if f=8714 then (memberP A B,0) else
 if f=8746 then unionP A B else if f=8745 then thoseP A B true else if f=126 then thoseP A B false else if f=47 then repP A B false else
 if f=9023 then repP A B true else if f=92 then expP A B false else if f=9024 then expP A B true else twoA f d A B
noncomputable def twoP (f:Int) (d:Nat) (A B:Arr):Arr × Int :=
 if f=9076 then resP A B else if f=44 then catP A B false else if f=9066 then catP A B true else if f=9021 then rotP A B false else if f=8854 then rotP A B true else
 if f=9033 then perP A B else if f=8593 then cutP takS takG A B else if f=8595 then cutP drpS drpG A B else if f=8835 then inP A B else
 if f=8866 then (B,0) else if f=8867 then (A,0) else moreP f d A B
theorem upA_rai {l:Nat} {A B:Arr} (h:upA l A B) {m n:Nat} (g:upL l m n):upA l (raiP A m) (raiP B n):=by
 unfold raiP; rw [h.sh]; exact upA_mk (upL_or h.sl g) h.cs
theorem upC_unp {l:Nat} {c d:Cell} (h:upC l c d):upA l (unpC c) (unpC d):=by
 obtain ⟨h0,h1,h2,h3,h4⟩:=upC_iff.1 h
 unfold unpC
 have hlen:c.ins.length=d.ins.length∧upA l (c.ins.headD zA) (d.ins.headD zA):=by
  clear h
  generalize c.ins=us at h4
  generalize d.ins=vs at h4
  clear h0 h1 h2 h3
  induction us generalizing vs with
  | nil =>
    cases vs with
    | nil=>exact ⟨rfl,upA_refl l _⟩
    | cons v vs=>simp [upAs] at h4
  | cons u us ih =>
    cases vs with
    | nil=>simp [upAs] at h4
    | cons v vs =>
      rw [upAs] at h4
      exact ⟨by simp [(ih vs h4.2).1],h4.1⟩
 rw [h1,hlen.1]
 split
 ·exact upA_rai hlen.2 h0
 ·refine upA_mk (upL_or (upL_refl l 0) h0) ?_
  rw [upCs,upCs]; exact ⟨h,trivial⟩
theorem upR_in {l:Nat} {A A' B B':Arr} (hA:upA l A A') (hB:upA l B B'):upR l (inP A B) (inP A' B'):=by
 unfold inP
 rw [hA.ints,hB.sh,hB.len]
 split
 ·exact upR_err ..
 ·split
  ·exact upR_err ..
  ·split
   ·exact upR_err ..
   ·split
    ·exact upR_err ..
    ·exact ⟨rfl,upA_rai (upC_unp (upCs_get hB.cs _)) (upL_or hB.sl (upA_tot hA))⟩
theorem upR_rep {l:Nat} {A A' B B':Arr} (hA:upA l A A') (hB:upA l B B') (first:Bool):upR l (repP A B first) (repP A' B' first):=by
 have e1:paxS B=paxS B':=by unfold paxS; rw [hB.sh]
 have e2:paxN B first=paxN B' first:=by unfold paxN; rw [hB.sh]
 have e3:repL A B first=repL A' B' first:=by unfold repL; rw [hA.sh,hA.ints,e1,e2]
 unfold repP
 rw [e3,hA.ints,hA.sh,e1,e2]
 split
 ·exact upR_err ..
 ·split
  ·exact upR_err ..
  ·split
   ·exact upR_err ..
   ·split
    ·exact upR_err ..
    ·exact upR_rows hA hB _ _ _
theorem upR_exp {l:Nat} {A A' B B':Arr} (hA:upA l A A') (hB:upA l B B') (first:Bool):upR l (expP A B first) (expP A' B' first):=by
 have e1:paxS B=paxS B':=by unfold paxS; rw [hB.sh]
 have e2:paxN B first=paxN B' first:=by unfold paxN; rw [hB.sh]
 unfold expP
 rw [hA.ints,e1,e2]
 split
 ·exact upR_err ..
 ·split
  ·exact upR_err ..
  ·split
   ·exact upR_rows hA hB _ _ _
   ·split
    ·exact upR_err ..
    ·exact upR_rows hA hB _ _ _
theorem upCs_those {l:Nat} {A A' B B':Arr} (hA:upA l A A') (hB:upA l B B') (inn:Bool):upCs l (thoseL A.cells B.cells inn) (thoseL A'.cells B'.cells inn):=by
 unfold thoseL
 exact upCs_filter _ _ (fun c d h=>by rw [placeP_eqv (upCs_eqv hB.cs) (upC_eqv h)]) hA.cs
theorem upR_those {l:Nat} {A A' B B':Arr} (hA:upA l A A') (hB:upA l B B') (inn:Bool):upR l (thoseP A B inn) (thoseP A' B' inn):=by
 have h:=upCs_those hA hB inn
 unfold thoseP
 rw [hA.sh]
 split
 ·exact upR_err ..
 ·refine ⟨rfl,upA_rai ?_ (upL_or (upA_tot hA) (upA_tot hB))⟩
  rw [upCs_len h]; exact upA_mk (upL_refl l 0) h
theorem upR_union {l:Nat} {A A' B B':Arr} (hA:upA l A A') (hB:upA l B B'):upR l (unionP A B) (unionP A' B'):=by
 have h:=upCs_those hB hA false
 unfold unionP
 rw [hA.sh,hB.sh,hA.len,upCs_len h]
 split
 ·exact upR_err ..
 ·split
  ·exact upR_err ..
  ·refine ⟨rfl,upA_rai ?_ (upL_or (upA_tot hA) (upA_tot hB))⟩
   rw [upCs_len (upCs_app hA.cs h)]; exact upA_mk (upL_refl l 0) (upCs_app hA.cs h)
theorem upR_index {l:Nat} {A A' B B':Arr} (hA:upA l A A') (hB:upA l B B'):upR l (indexP A B) (indexP A' B'):=by
 unfold indexP
 rw [hA.sh,hB.sh]
 split
 ·exact upR_err ..
 ·refine upR_ok (upL_or (upA_tot hA) (upA_tot hB)) (upCs_mapL _ _ (fun c d h => ?_) hB.cs)
  unfold idxC2
  rw [placeP_eqv (upCs_eqv hA.cs) (upC_eqv h),hA.len]
  exact upC_refl l _
theorem upA_member {l:Nat} {A A' B B':Arr} (hA:upA l A A') (hB:upA l B B'):upA l (memberP A B) (memberP A' B'):=by
 unfold memberP
 rw [hA.sh]
 refine upA_mk (upL_or (upA_tot hA) (upA_tot hB)) (upCs_mapL _ _ (fun c d h => ?_) hA.cs)
 unfold memC
 rw [placeP_eqv (upCs_eqv hB.cs) (upC_eqv h)]
 exact upC_refl l _
theorem upR_more {l:Nat} {A A' B B':Arr} (hA:upA l A A') (hB:upA l B B') (f:Int) (d:Nat):upR l (moreP f d A B) (moreP f d A' B'):=by
 unfold moreP
 by_cases h8801:f=8801
 ·rw [if_pos h8801,if_pos h8801]; exact ⟨rfl,upA_mat hA hB true⟩
 rw [if_neg h8801,if_neg h8801]
 by_cases h8802:f=8802
 ·rw [if_pos h8802,if_pos h8802]; exact ⟨rfl,upA_mat hA hB false⟩
 rw [if_neg h8802,if_neg h8802]
 by_cases h9075:f=9075
 ·rw [if_pos h9075,if_pos h9075]; exact upR_index hA hB
 rw [if_neg h9075,if_neg h9075]
 by_cases h8714:f=8714
 ·rw [if_pos h8714,if_pos h8714]; exact ⟨rfl,upA_member hA hB⟩
 rw [if_neg h8714,if_neg h8714]
 by_cases h8746:f=8746
 ·rw [if_pos h8746,if_pos h8746]; exact upR_union hA hB
 rw [if_neg h8746,if_neg h8746]
 by_cases h8745:f=8745
 ·rw [if_pos h8745,if_pos h8745]; exact upR_those hA hB true
 rw [if_neg h8745,if_neg h8745]
 by_cases h126:f=126
 ·rw [if_pos h126,if_pos h126]; exact upR_those hA hB false
 rw [if_neg h126,if_neg h126]
 by_cases h47:f=47
 ·rw [if_pos h47,if_pos h47]; exact upR_rep hA hB false
 rw [if_neg h47,if_neg h47]
 by_cases h9023:f=9023
 ·rw [if_pos h9023,if_pos h9023]; exact upR_rep hA hB true
 rw [if_neg h9023,if_neg h9023]
 by_cases h92:f=92
 ·rw [if_pos h92,if_pos h92]; exact upR_exp hA hB false
 rw [if_neg h92,if_neg h92]
 by_cases h9024:f=9024
 ·rw [if_pos h9024,if_pos h9024]; exact upR_exp hA hB true
 rw [if_neg h9024,if_neg h9024]
 exact upR_two f d A A' B B' hA hB
theorem upR_twoP {l:Nat} {A A' B B':Arr} (hA:upA l A A') (hB:upA l B B') (f:Int) (d:Nat):upR l (twoP f d A B) (twoP f d A' B'):=by
 unfold twoP
 by_cases h9076:f=9076
 ·rw [if_pos h9076,if_pos h9076]; exact upR_res hA hB
 rw [if_neg h9076,if_neg h9076]
 by_cases h44:f=44
 ·rw [if_pos h44,if_pos h44]; exact upR_cat hA hB false
 rw [if_neg h44,if_neg h44]
 by_cases h9066:f=9066
 ·rw [if_pos h9066,if_pos h9066]; exact upR_cat hA hB true
 rw [if_neg h9066,if_neg h9066]
 by_cases h9021:f=9021
 ·rw [if_pos h9021,if_pos h9021]; exact upR_rot hA hB false
 rw [if_neg h9021,if_neg h9021]
 by_cases h8854:f=8854
 ·rw [if_pos h8854,if_pos h8854]; exact upR_rot hA hB true
 rw [if_neg h8854,if_neg h8854]
 by_cases h9033:f=9033
 ·rw [if_pos h9033,if_pos h9033]; exact upR_per hA hB
 rw [if_neg h9033,if_neg h9033]
 by_cases h8593:f=8593
 ·rw [if_pos h8593,if_pos h8593]; exact upR_cut hA hB _ _
 rw [if_neg h8593,if_neg h8593]
 by_cases h8595:f=8595
 ·rw [if_pos h8595,if_pos h8595]; exact upR_cut hA hB _ _
 rw [if_neg h8595,if_neg h8595]
 by_cases h8835:f=8835
 ·rw [if_pos h8835,if_pos h8835]; exact upR_in hA hB
 rw [if_neg h8835,if_neg h8835]
 by_cases h8866:f=8866
 ·rw [if_pos h8866,if_pos h8866]; exact ⟨rfl,hB⟩
 rw [if_neg h8866,if_neg h8866]
 by_cases h8867:f=8867
 ·rw [if_pos h8867,if_pos h8867]; exact ⟨rfl,hA⟩
 rw [if_neg h8867,if_neg h8867]
 exact upR_more hA hB f d
theorem rightN_Q {n:Num} (h:rightN n=true):NumQ n:=by
 unfold rightN at h
 split at h
 ·cases h
 rename_i hl
 rw [Bool.and_eq_true] at h
 obtain ⟨h1,h2⟩:=h
 have h2:=(numP_iff _ _).1 h2
 unfold makeF at h1 h2
 by_cases hy:valL n.bot=0
 ·rw [if_pos hy] at h1; cases h1
 rw [if_neg hy] at h1 h2
 dsimp only at h1 h2
 generalize (dm (limbs (valL n.top)) (gcdF 100000 (valL n.top) (valL n.bot))).1=t at h1 h2
 generalize hb:(dm (limbs (valL n.bot)) (gcdF 100000 (valL n.top) (valL n.bot))).1=b at h1 h2
 split at h1
 ·cases h1
 rename_i hlen
 rw [if_neg hlen] at h2
 have hbot:n.bot=limbs b:=by rw [h2]
 have hbv:valL n.bot=b:=by rw [hbot,valL_limbs]
 clear hb h1
 generalize (sgnV n.neg (valL n.top) != false)=s at h2
 refine ⟨if decide (t≠0) && s then -(t:Int) else t,b,?_,fun e=>hy (by rw [hbv,e]),?_,?_⟩
 ·rw [h2]
  unfold qN
  by_cases ht:t=0
  ·subst ht; simp
  ·cases s<;>(simp [ht]<;>omega)
 ·unfold szZ
  have:(if decide (t≠0) && s then -(t:Int) else t).natAbs=t:=by split<;>omega
  rw [this]; omega
 ·omega
theorem zeroN_z {n:Num} (h:zeroN n=true):n=zN:=by
 obtain ⟨g,t,b⟩:=n
 unfold zeroN at h
 simp at h
 obtain ⟨h1,h2,h3⟩:=h
 subst h1; subst h2; subst h3; rfl
theorem right_c {d:Nat} {p:Arr→Prop} (hp:∀ a,okA a→∀ e,d=e+1→rightA e a=true→p a) {c:Cell} (hc:okC c) (h:rightC d c=true):okTC p c:=by
 obtain ⟨l,k,n,ch,ins⟩:=c
 obtain ⟨a1,a2,a3,a4,a5⟩:=hc.parts
 dsimp only [Cell.l,Cell.n,Cell.ins] at a1 a2 a3 a4 a5
 unfold rightC at h
 refine ⟨a1,?_⟩
 dsimp only [Cell.kind,Cell.c,Cell.ins,Cell.n]
 split at h
 ·rename_i hk
  simp only [Bool.and_eq_true,beq_iff_eq] at h
  exact .inl ⟨hk,h.1,List.eq_nil_of_length_eq_zero h.2.1,rightN_Q h.2.2⟩
 ·split at h
  ·rename_i hk
   simp only [Bool.and_eq_true,beq_iff_eq] at h
   refine .inr (.inl ⟨hk,zeroN_z h.1,List.eq_nil_of_length_eq_zero h.2.1,?_⟩)
   have hm:=h.2.2
   unfold mayC at hm
   simp only [Bool.and_eq_true,decide_eq_true_eq] at hm
   exact wf_i64 (by omega) (by omega)
  ·simp only [Bool.and_eq_true,beq_iff_eq,decide_eq_true_eq] at h
   obtain ⟨h1,h2,h3,h4,h5,h6⟩:=h
   refine .inr (.inr ⟨h1,zeroN_z h2,h3,?_⟩)
   obtain ⟨a,rfl⟩:=List.length_eq_one_iff.1 h4
   rw [rightB,Bool.and_eq_true] at h6
   exact ⟨a,rfl,hp a (okAs_mem.1 a5 a (by simp)) (d - 1) (by omega) h6.2⟩
theorem okT_of:∀ (d:Nat) (A:Arr),okA A→rightA d A=true→okT d A
 | 0,A,hA,h=>by
   have hs:=right_shape h
   have hc:∀ c ∈ A.cells,rightC 0 c=true:=by cases A; rw [rightA,Bool.and_eq_true,Bool.and_eq_true] at h; exact rightCs_mem.1 h.2.2
   exact ⟨⟨hA.parts.1,hs.1,hs.2.1⟩,fun c hcm=>right_c (fun a _ e he _=>by omega) (okCs_mem.1 hA.parts.2.2.2 c hcm) (hc c hcm)⟩
 | d+1,A,hA,h=>by
   have hs:=right_shape h
   have hc:∀ c ∈ A.cells,rightC (d+1) c=true:=by cases A; rw [rightA,Bool.and_eq_true,Bool.and_eq_true] at h; exact rightCs_mem.1 h.2.2
   exact ⟨⟨hA.parts.1,hs.1,hs.2.1⟩,fun c hcm=>right_c (fun a ha e he hr=>okT_of d a ha (by rw [show d=e from by omega]; exact hr)) (okCs_mem.1 hA.parts.2.2.2 c hcm) (hc c hcm)⟩
theorem okT_good {A:Arr} (hA:arrOK A) (h:goodA A=true):okT 8 A:=okT_of 8 A (few_ok hA (good_few h)) (good_right h)
theorem okTC.relab {p:Arr→Prop} {g:Nat→Nat} (hg:∀ a,a<18446744073709551616→g a<18446744073709551616) (hp:∀ a,p a→p (relabA g a)) {c:Cell} (h:okTC p c):okTC p (relabC g c):=by
 obtain ⟨l,k,n,ch,ins⟩:=c
 rw [relabC]
 obtain ⟨h1,h2⟩:=h
 refine ⟨hg _ h1,?_⟩
 dsimp only [Cell.kind,Cell.c,Cell.ins,Cell.n] at h2 ⊢
 rcases h2 with ⟨a,b,c,d⟩|⟨a,b,c,d⟩|⟨a,b,c,x,d,e⟩
 ·exact .inl ⟨a,b,by rw [c]; rfl,d⟩
 ·exact .inr (.inl ⟨a,b,by rw [c]; rfl,d⟩)
 ·exact .inr (.inr ⟨a,b,c,relabA g x,by rw [d]; rfl,hp x e⟩)
theorem okTB.relab {g:Nat→Nat} (hg:∀ a,a<18446744073709551616→g a<18446744073709551616) {A:Arr} (h:okTB A):okTB (relabA g A):=by
 obtain ⟨s,sh,cs⟩:=A
 rw [relabA]
 obtain ⟨h1,h2,h3⟩:=h
 exact ⟨hg _ h1,h2,by dsimp only [Arr.cells,Arr.shape] at h3 ⊢; rw [relabCs_map,List.length_map]; exact h3⟩
theorem okT.relab {g:Nat→Nat} (hg:∀ a,a<18446744073709551616→g a<18446744073709551616):∀ {d:Nat} {A:Arr},okT d A→okT d (relabA g A)
 | 0,A,h=>⟨h.1.relab hg,fun c hc=>by
   have:c ∈ relabCs g A.cells:=by cases A; rw [relabA] at hc; exact hc
   rw [relabCs_map] at this
   obtain ⟨c0,h0,rfl⟩:=List.mem_map.1 this
   exact (h.2 c0 h0).relab hg (fun _ h=>h.elim)⟩
 | d+1,A,h=>⟨h.1.relab hg,fun c hc=>by
   have:c ∈ relabCs g A.cells:=by cases A; rw [relabA] at hc; exact hc
   rw [relabCs_map] at this
   obtain ⟨c0,h0,rfl⟩:=List.mem_map.1 this
   exact (h.2 c0 h0).relab hg (fun _ h=>h.relab hg)⟩
theorem okA_mk {s:Nat} {sh:List Int} {cs:List Cell} (h1:s<18446744073709551616) (h2:sh.length≤1000000) (h3:cs.length≤1000000) (h4:∀ c ∈ cs,okC c):okA (.mk s sh cs):=by
 have hB:maxB=1000000000:=rfl
 simp only [okA]
 exact ⟨h1,by omega,by omega,okCs_mem.2 h4⟩
theorem okA_zA:okA zA:=okA_mk (by omega) (by simp) (by simp) (by simp)
theorem okC_D:okC cellD:=by simp [okC,cellD,okAs]
theorem okC_get {cs:List Cell} (h:∀ c ∈ cs,okC c) (i:Nat):okC (cs.getD i cellD):=by
 rw [List.getD_eq_getElem?_getD]
 cases e:cs[i]? with
 | none=>exact okC_D
 | some c=>exact h c (List.mem_of_getElem? e)
theorem okA.cs {A:Arr} (h:okA A):∀ c ∈ A.cells,okC c:=okCs_mem.1 h.parts.2.2.2
theorem okC_fil {A:Arr} (h:okA A):okC (filC A):=by
 unfold filC
 cases e:A.cells with
 | nil=>exact intJ_ok 0 (by decide)
 | cons c cs =>
   have hl:=(h.cs c (by rw [e]; simp)).parts.1
   have h0:=intJ_ok 0 (by decide)
   unfold intC at h0
   dsimp only
   split
   ·exact ⟨hl,by simp [zN],by simp [zN],by simp,trivial⟩
   ·exact ⟨hl,h0.2.1,h0.2.2.1,by simp,trivial⟩
theorem okA_rai {A:Arr} (h:okA A) {l:Nat} (hl:l<18446744073709551616):okA (raiP A l):=by
 obtain ⟨s,sh,cs⟩:=A
 simp only [okA] at h
 simp only [raiP,Arr.s,Arr.shape,Arr.cells,okA]
 exact ⟨or_lt _ _ h.1 hl,h.2⟩
theorem permL_okC {cs:List Cell} (p:Nat→Nat) (h:∀ c ∈ cs,okC c):(permL cs p).length=cs.length∧∀ c ∈ permL cs p,okC c:=by
 unfold permL
 refine ⟨by simp,fun c hc => ?_⟩
 obtain ⟨i,_,rfl⟩:=List.mem_map.1 hc
 exact okC_get h _
theorem pax_lt (A:Arr) (first:Bool):paxN A first<(paxS A).length:=by
 unfold paxN paxS
 by_cases h:A.shape.length=0
 ·rw [if_pos h,if_pos h]; simp
 ·rw [if_neg h,if_neg h]; split<;>omega
theorem okA_res {N A:Arr} (kN:okJ N) (kA:okJ A):okA (resP N A).1:=by
 unfold resP
 split
 ·exact okA_zA
 ·split
  ·exact okA_zA
  ·rename_i h1
   have h6:=cnt_len (Classical.not_not.1 h1)
   have hle:=(cnt_le (intsR N).1).2
   have hf:∀ c ∈ fromP A,okC c:=fun c hc=>by
    unfold fromP at hc
    split at hc
    ·simp at hc; subst hc; exact okC_fil kA.ok
    ·exact kA.ok.cs c hc
   refine okA_mk (or_lt _ _ kA.ok.parts.1 (totA_lt N kN.ok)) (by omega) (by simp [resL]; omega) fun c hc => ?_
   unfold resL at hc
   obtain ⟨i,_,rfl⟩:=List.mem_map.1 hc
   exact okC_get hf _
theorem okA_cut {N A:Arr} (kN:okJ N) (kA:okJ A) (f g:Int→Int→Int):okA (cutP f g N A).1:=by
 unfold cutP
 split
 ·exact okA_zA
 ·split
  ·exact okA_zA
  ·rename_i h1
   have h6:=cnt_len (Classical.not_not.1 h1)
   have hle:=(cnt_le (updE (List.zipWith f (axP N A).1 (axP N A).2.1) (axP N A).2.1)).2
   refine okA_mk (or_lt _ _ kA.ok.parts.1 (totA_lt N kN.ok)) (by omega) (by rw [seenL_len]; omega) fun c hc => ?_
   unfold seenL at hc
   obtain ⟨i,_,rfl⟩:=List.mem_map.1 hc
   unfold seenC
   split
   ·exact okC_get kA.ok.cs _
   ·exact okC_fil kA.ok
theorem okA_rows {N A:Arr} (kN:okJ N) (kA:okJ A) {s:List Int} {x:Nat} (hx:x<s.length) (F:List Int):okA (rowsP N A s x F).1:=by
 unfold rowsP
 split
 ·exact okA_zA
 ·rename_i h1
  have h1:=Classical.not_not.1 h1
  have h6:=cnt_len h1
  have hle:=(cnt_le (s.set x (F.length:Int))).2
  have hsm:=cnt_small h1
  have hpr:=cnt_prod h1
  have ht:(s.set x (F.length:Int))[x]? = some (F.length:Int):=by rw [List.getElem?_set_self hx]
  refine okA_mk (or_lt _ _ kA.ok.parts.1 (totA_lt N kN.ok)) (by omega) ?_ fun c hc => ?_
  ·generalize s.set x (F.length:Int)=t at *
   have s1:Small (t.take x):=fun z hz=>hsm z (List.mem_of_mem_take hz)
   have s2:Small (t.drop (x+1)):=fun z hz=>hsm z (List.mem_of_mem_drop hz)
   have p1:=prodC_leL s1
   have p2:=prodC_leL s2
   have n1:=prodL_nonneg (t.take x) (fun z hz=>(s1 z hz).1)
   have n2:=prodL_nonneg (t.drop (x+1)) (fun z hz=>(s2 z hz).1)
   have hsp:prodL (t.take x) * (F.length:Int) * prodL (t.drop (x+1))=prodL t:=by
    conv=>rhs; rw [split_at ht,prodL_append,prodL_cons]
    rw [Int.mul_assoc]
   have hb:=rowsO_len A (prodC (t.drop (x+1)) 1).toNat (s.getD x 0).toNat F (prodC (t.take x) 1).toNat
   have hbound:(prodC (t.take x) 1).toNat * (F.length * (prodC (t.drop (x+1)) 1).toNat)≤2048:=by
    have e1:((prodC (t.take x) 1).toNat:Int)≤prodL (t.take x):=by omega
    have e2:((prodC (t.drop (x+1)) 1).toNat:Int)≤prodL (t.drop (x+1)):=by omega
    generalize (prodC (t.take x) 1).toNat=u at *
    generalize (prodC (t.drop (x+1)) 1).toNat=v at *
    have h1:(u:Int) * (F.length:Int)≤prodL (t.take x) * (F.length:Int):=Int.mul_le_mul_of_nonneg_right e1 (by omega)
    have h2:(u:Int) * (F.length:Int) * v≤prodL (t.take x) * (F.length:Int) * prodL (t.drop (x+1)) :=
     Int.le_trans (Int.mul_le_mul_of_nonneg_right h1 (by omega)) (Int.mul_le_mul_of_nonneg_left e2 (Int.mul_nonneg n1 (by omega)))
    rw [hsp] at h2
    have h3:(u:Int) * (F.length:Int) * v≤2048:=by omega
    rw [← Nat.mul_assoc]
    rw [← Int.natCast_mul,← Int.natCast_mul] at h3
    omega
   show (rowsL A _ _ _ F).length≤_
   unfold rowsL
   omega
  ·unfold rowsL at hc
   obtain ⟨i,_,hc⟩:=List.mem_flatMap.1 hc
   unfold rowsI at hc
   obtain ⟨k,_,hc⟩:=List.mem_flatMap.1 hc
   unfold rowPt at hc
   split at hc
   ·rw [(List.mem_replicate.1 hc).2]; exact okC_fil kA.ok
   ·exact kA.ok.cs c (List.mem_of_mem_drop (List.mem_of_mem_take hc))
theorem okA_rot {N A:Arr} (kN:okJ N) (kA:okJ A) (first:Bool):okA (rotP N A first).1:=by
 unfold rotP
 split
 ·exact okA_zA
 ·split
  ·rename_i z _
   have h6:=kA.len
   have hc:=kA.cells
   obtain ⟨m1,m2⟩:(rotC A first z).length=A.cells.length∧∀ c ∈ rotC A first z,okC c:=by
    unfold rotC
    split
    ·exact ⟨rfl,kA.ok.cs⟩
    ·exact permL_okC _ kA.ok.cs
   exact okA_mk (or_lt _ _ kA.ok.parts.1 (totA_lt N kN.ok)) (by omega) (by rw [m1]; omega) m2
  ·exact okA_zA
theorem okA_per {N A:Arr} (kN:okJ N) (kA:okJ A):okA (perP N A).1:=by
 unfold perP
 split
 ·exact okA_zA
 ·split
  ·exact okA_zA
  ·split
   ·rename_i h1 h2
    have h6:=kA.len
    have hc:=kA.cells
    obtain ⟨m1,m2⟩:=permL_okC (perN (intsR N).1 A.shape) kA.ok.cs
    exact okA_mk (or_lt _ _ kA.ok.parts.1 (totA_lt N kN.ok)) (by rw [sca_len]; omega) (by rw [m1]; omega) m2
   ·exact okA_zA
theorem okA_catP {N A:Arr} (kN:okJ N) (kA:okJ A) (first:Bool):okA (catP N A first).1:=by
 by_cases h:(catP N A first).2=0
 ·exact (okA_cat kN kA first h).ok
 ·unfold catP at h ⊢
  split
  ·split
   ·exact okA_zA
   ·rename_i h1 h2 h3 h4 h5
    rw [h3,h4] at h
    dsimp only at h
    rw [if_neg h5] at h
    exact absurd rfl h
  ·exact okA_zA
theorem okA_mat {N A:Arr} (kN:okJ N) (kA:okJ A) (same:Bool):okA (matP N A same):=by
 unfold matP numbP
 refine okA_mk (or_lt _ _ (by omega) (or_lt _ _ (totA_lt N kN.ok) (totA_lt A kA.ok))) (by simp) (by simp) fun c hc => ?_
 simp at hc; subst hc
 split<;>exact intJ_ok _ (by decide)
theorem okA_those {N A:Arr} (kN:okJ N) (kA:okJ A) (inn:Bool):okA (thoseP N A inn).1:=by
 unfold thoseP
 split
 ·exact okA_zA
 ·have hc:=kN.cells
  have hl:=thoseL_len N.cells A.cells inn
  exact okA_rai (okA_mk (cs:=thoseL N.cells A.cells inn) (by omega) (by simp) (by omega) fun c hc=>kN.ok.cs c (List.mem_filter.1 hc).1) (or_lt _ _ (totA_lt N kN.ok) (totA_lt A kA.ok))
theorem okA_union {N A:Arr} (kN:okJ N) (kA:okJ A):okA (unionP N A).1:=by
 unfold unionP
 split
 ·exact okA_zA
 ·split
  ·exact okA_zA
  ·rename_i h1 h2
   refine okA_rai (okA_mk (by omega) (by simp) (by rw [List.length_append]; omega) fun c hc => ?_) (or_lt _ _ (totA_lt N kN.ok) (totA_lt A kA.ok))
   rcases List.mem_append.1 hc with h|h
   ·exact kN.ok.cs c h
   ·exact kA.ok.cs c (List.mem_filter.1 h).1
theorem okA_index {N A:Arr} (kN:okJ N) (kA:okJ A):okA (indexP N A).1:=by
 unfold indexP
 split
 ·exact okA_zA
 ·have h6:=kA.len
  have hc:=kA.cells
  have hn:=kN.cells
  refine okA_mk (or_lt _ _ (totA_lt N kN.ok) (totA_lt A kA.ok)) (by omega) (by rw [List.length_map]; omega) fun c hc => ?_
  obtain ⟨c0,_,rfl⟩:=List.mem_map.1 hc
  unfold idxC2
  have hr:=placeP_rng N.cells c0
  exact intJ_ok _ (by split<;>omega)
theorem okA_member {N A:Arr} (kN:okJ N) (kA:okJ A):okA (memberP N A):=by
 unfold memberP
 have h6:=kN.len
 have hc:=kN.cells
 refine okA_mk (or_lt _ _ (totA_lt N kN.ok) (totA_lt A kA.ok)) (by omega) (by rw [List.length_map]; omega) fun c hc => ?_
 obtain ⟨c0,_,rfl⟩:=List.mem_map.1 hc
 unfold memC
 exact intJ_ok _ (by split<;>decide)
theorem okA_in {N A:Arr} (kN:okJ N) (kA:okJ A):okA (inP N A).1:=by
 unfold inP
 split
 ·exact okA_zA
 ·split
  ·exact okA_zA
  ·split
   ·exact okA_zA
   ·split
    ·exact okA_zA
    ·refine okA_rai ?_ (or_lt _ _ kA.ok.parts.1 (totA_lt N kN.ok))
     have hc:=okC_get kA.ok.cs ((intsR N).1.headD 0 - 1).toNat
     generalize A.cells.getD ((intsR N).1.headD 0 - 1).toNat cellD=c at hc
     unfold unpC
     split
     ·rename_i h
      obtain ⟨a,ha⟩:=List.length_eq_one_iff.1 h.2
      rw [ha]
      exact okA_rai (okAs_mem.1 hc.parts.2.2.2.2 a (by rw [ha]; simp)) hc.parts.1
     ·exact okA_mk (or_lt _ _ (by omega) hc.parts.1) (by simp) (by simp) (by intro d hd; simp at hd; subst hd; exact hc)
theorem okA_rep {N A:Arr} (kN:okJ N) (kA:okJ A) (first:Bool):okA (repP N A first).1:=by
 unfold repP
 repeat' split
 all_goals first|exact okA_zA|exact okA_rows kN kA (pax_lt A first) _
theorem okA_exp {N A:Arr} (kN:okJ N) (kA:okJ A) (first:Bool):okA (expP N A first).1:=by
 unfold expP
 repeat' split
 all_goals first|exact okA_zA|exact okA_rows kN kA (pax_lt A first) _
theorem NumR.okl {n:Num} (h:NumR n):n.top.length≤maxB∧n.bot.length≤maxB:=by
 have:=h.len; have hB:maxB=1000000000:=rfl; omega
theorem okC_two {p:Arr→Prop} (two:Arr→Arr→Arr × Int) (f:Int) {x y:Cell} (hx:okTC p x) (hy:okTC p y) (ht:okA (two (contP x) (contP y)).1):okC (twoC two f x y).1:=by
 have hl:=or_lt _ _ hx.1 hy.1
 unfold twoC
 split
 ·exact ⟨hl,by simp [zN],by simp [zN],by simp [maxB],⟨ht,trivial⟩⟩
 ·rename_i h2
  split
  ·rename_i h0
   have qx:NumQ x.n:=by
    rcases hx.2 with h|h|h
    ·exact h.2.2.2
    ·have:=h.1; omega
    ·have:=h.1; omega
   have qy:NumQ y.n:=by
    rcases hy.2 with h|h|h
    ·exact h.2.2.2
    ·have:=h.1; omega
    ·have:=h.1; omega
   have:=(numsF_a f qx qy).1.okl
   exact ⟨hl,this.1,this.2,by simp,trivial⟩
  ·split
   ·have:=(truN_R (decide (x.kind=y.kind∧x.c=y.c) == decide (f=61))).okl
    exact ⟨hl,this.1,this.2,by simp,trivial⟩
   ·exact ⟨hl,by simp [zN],by simp [zN],by simp,trivial⟩
theorem okA_twoS {p:Arr→Prop} (two:Arr→Arr→Arr × Int) (f:Int) {A B:Arr} (hA:okTB A) (hB:okTB B) (kA:∀ c ∈ A.cells,okTC p c) (kB:∀ c ∈ B.cells,okTC p c)
 (ht:∀ x y,okTC p x→okTC p y→okA (two (contP x) (contP y)).1):okA (twoS two f A B).1:=by
 unfold twoS
 split
 ·exact okA_zA
 ·split
  ·exact okA_zA
  ·rename_i h1
   have h1:=Classical.not_not.1 h1
   split
   ·exact okA_zA
   ·have h6:(conf A.shape B.shape).1.length≤6:=by
     have a6:=hA.len
     have b6:=hB.len
     unfold conf
     repeat' split
     all_goals first|exact a6|exact b6|simp
    have hn:cntP A B≤2048:=by
     have:=hA.cells; have:=hB.cells
     unfold cntP; split<;>omega
    refine okA_mk (or_lt _ _ hA.1 hB.1) (by omega) (by simp; omega) fun c hc => ?_
    obtain ⟨i,hi,rfl⟩:=List.mem_map.1 hc
    have hi:=List.mem_range.1 hi
    have hx:=kA _ (List.mem_of_getElem? (pickP_l hA hB h1 hi))
    have hy:=kB _ (List.mem_of_getElem? (pickP_r hA hB h1 hi))
    exact okC_two two f hx hy (ht _ _ hx hy)
theorem okA_twoA (f:Int):∀ (d:Nat) (A B:Arr),okT d A→okT d B→okA (twoA f d A B).1
 | 0,A,B,hA,hB=>okA_twoS _ f hA.1 hB.1 hA.2 hB.2 fun _ _ _ _=>okA_zA
 | d+1,A,B,hA,hB=>okA_twoS _ f hA.1 hB.1 hA.2 hB.2 fun x y hx hy=>okA_twoA f d _ _ (okT_cont hx) (okT_cont hy)
theorem okA_two (f:Int) {d:Nat} {A B:Arr} (hA:okT d A) (hB:okT d B):okA (twoP f d A B).1:=by
 have kA:=hA.j
 have kB:=hB.j
 unfold twoP
 by_cases h9076:f=9076
 ·rw [if_pos h9076]; exact okA_res kA kB
 rw [if_neg h9076]
 by_cases h44:f=44
 ·rw [if_pos h44]; exact okA_catP kA kB false
 rw [if_neg h44]
 by_cases h9066:f=9066
 ·rw [if_pos h9066]; exact okA_catP kA kB true
 rw [if_neg h9066]
 by_cases h9021:f=9021
 ·rw [if_pos h9021]; exact okA_rot kA kB false
 rw [if_neg h9021]
 by_cases h8854:f=8854
 ·rw [if_pos h8854]; exact okA_rot kA kB true
 rw [if_neg h8854]
 by_cases h9033:f=9033
 ·rw [if_pos h9033]; exact okA_per kA kB
 rw [if_neg h9033]
 by_cases h8593:f=8593
 ·rw [if_pos h8593]; exact okA_cut kA kB _ _
 rw [if_neg h8593]
 by_cases h8595:f=8595
 ·rw [if_pos h8595]; exact okA_cut kA kB _ _
 rw [if_neg h8595]
 by_cases h8835:f=8835
 ·rw [if_pos h8835]; exact okA_in kA kB
 rw [if_neg h8835]
 by_cases h8866:f=8866
 ·rw [if_pos h8866]; exact kB.ok
 rw [if_neg h8866]
 by_cases h8867:f=8867
 ·rw [if_pos h8867]; exact kA.ok
 rw [if_neg h8867]
 unfold moreP
 by_cases h8801:f=8801
 ·rw [if_pos h8801]; exact okA_mat kA kB true
 rw [if_neg h8801]
 by_cases h8802:f=8802
 ·rw [if_pos h8802]; exact okA_mat kA kB false
 rw [if_neg h8802]
 by_cases h9075:f=9075
 ·rw [if_pos h9075]; exact okA_index kA kB
 rw [if_neg h9075]
 by_cases h8714:f=8714
 ·rw [if_pos h8714]; exact okA_member kA kB
 rw [if_neg h8714]
 by_cases h8746:f=8746
 ·rw [if_pos h8746]; exact okA_union kA kB
 rw [if_neg h8746]
 by_cases h8745:f=8745
 ·rw [if_pos h8745]; exact okA_those kA kB true
 rw [if_neg h8745]
 by_cases h126:f=126
 ·rw [if_pos h126]; exact okA_those kA kB false
 rw [if_neg h126]
 by_cases h47:f=47
 ·rw [if_pos h47]; exact okA_rep kA kB false
 rw [if_neg h47]
 by_cases h9023:f=9023
 ·rw [if_pos h9023]; exact okA_rep kA kB true
 rw [if_neg h9023]
 by_cases h92:f=92
 ·rw [if_pos h92]; exact okA_exp kA kB false
 rw [if_neg h92]
 by_cases h9024:f=9024
 ·rw [if_pos h9024]; exact okA_exp kA kB true
 rw [if_neg h9024]
 exact okA_twoA f d A B hA hB
end Go.Proofs.YtnnipocjapblkaaGreat
