/- Places and shapes: what the program's functions answer. -/
import Derived.Test.YtnnipocjapblkaaGreatK06
import Derived.Test.YtnnipocjapblkaaGreatK03
import Derived.Test.YtnnipocjapblkaaGreatK04
import Derived.Test.YtnnipocjapblkaaGreatK02
import Derived.Test.YtnnipocjapblkaaGreatProg
import Derived.ProofKit
import Derived.OpenShut
import Derived.ShutString
import Derived.ChangeOld
import Derived.SizedLaws
import Derived.KernelRfl
import Derived.Lib.AppendZeros
import Derived.WalkSpells
import Derived.WideShapes
import Derived.Laws.Strings
set_option maxRecDepth 100000
set_option maxHeartbeats 4000000
namespace Go.Proofs.YtnnipocjapblkaaGreat
set_option linter.unusedVariables false
open Go.RowKit
theorem cloneInt_m (es:List (List AV)) (hn:0<es.length) (hb:es.length≤100000000000):AMut Tryz.prog 71 [.sl 1 es] [] 0 (.own 0) [(0,some ⟨true,false,3,1,es⟩)] 1:=by
 have hu := Tryz.underlying23
 refine amut_of code_slices_Clone_int (by simp [fn_slices_Clone_int]) fun C hC => ?_
 refine walk2 ?_
 exact fin_m [(0,1)]
theorem idxC_at {s d:List Int} {k:Nat} {z y:Int} (h:s[k]? = some z) (h':d[k]? = some y) (o:Int):idxC (s.drop k) (d.drop k) o=if y<0∨z≤y then none else idxC (s.drop (k+1)) (d.drop (k+1)) (o * z+y):=by
 rw [dropA_cons h,dropA_cons h',idxC]
theorem shIndex_a (s d:List Int) (ld:d.length≤maxB) (ls0:s.length≤maxB):ACalls Tryz.prog 135 [.sl 1 (intsA .i64 s),.sl 1 (intsA .i64 d)] (.tup [.lit (.int .i64 (idx s d).1),.lit (.bool (idx s d).2)]):=by
 have hB:maxB=1000000000:=rfl
 have ls:=intsA_len .i64 s
 have ldd:=intsA_len .i64 d
 have c1:=count_a s
 refine acalls_of code_shape_Index (by simp [fn_shape_Index]) fun C hC => ?_
 unfold idx
 by_cases h1:(cnt s).2=0
 ·by_cases h2:d.length=s.length
  ·rw [if_neg (by simp [h1,h2])]
   rw [h1] at c1
   refine walk2 ?_
   refine aw_loopB [0,1,4,5,25,26] [] (fun p:Nat × Int=>[(8,.lit (.int .i64 p.2)),(27,.lit (.int .i64 p.1))]) (fun _=>[]) 0 (fun p=>p.1≤s.length∧0≤p.2∧p.2<prodL (s.take p.1)∧idxC s d 0=idxC (s.drop p.1) (d.drop p.1) p.2) (fun p=>s.length - p.1) (0,0)
    ⟨Nat.zero_le _,by simp only; omega,by simp [prodL],rfl⟩ ?_
   rintro ⟨k,o⟩ ⟨hk,o0,o1,hE⟩
   simp only at hk o0 o1 hE
   dsimp only [List.cons_append,List.nil_append]
   generalize idxC s d 0=G at hE ⊢
   by_cases hlt:k<s.length
   ·obtain ⟨z,hz⟩:∃ z,s[k]? = some z:=⟨_,List.getElem?_eq_getElem hlt⟩
    obtain ⟨y,hy⟩:∃ y,d[k]? = some y:=⟨_,List.getElem?_eq_getElem (by omega)⟩
    have hzk:=int_at (k:=.i64) hz
    have hyk:=int_at (k:=.i64) hy
    rw [idxC_at hz hy] at hE
    by_cases h3:y<0
    ·rw [if_pos (.inl h3)] at hE
     rw [hE,idxF]
     refine walk2 ?_
     exact fin
    ·by_cases h4:z≤y
     ·rw [if_pos (.inr h4)] at hE
      rw [hE,idxF]
      refine walk2 ?_
      exact fin
     ·rw [if_neg (by omega)] at hE
      obtain ⟨i1,i2,i3,i4⟩:=idx_step (y:=y) h1 hz o0 o1 (by omega) (by omega)
      have hm : -9223372036854775808≤o * z∧o * z≤9223372036854775807:=by omega
      refine walk2 ?_
      exact ⟨(k+1,o * z+y),by simp only; omega,⟨by simp only; omega,by simp only; omega,i1,hE⟩,wkR hC.m []⟩
   ·rw [List.drop_eq_nil_of_le (by omega),idxC_nil] at hE
    rw [hE,idxF]
    refine walk2 ?_
    exact fin
  ·rw [if_pos (.inr h2)]
   rw [h1] at c1
   refine walk2 ?_
   exact fin
 ·rw [if_pos (.inl h1)]
  refine walk2 ?_
  exact fin
theorem digR_at {s:List Int} {k:Nat} {z:Int} (h:s[k]? = some z) (n:Int):digR (s.drop k) n=((digR (s.drop (k+1)) n).1 / z,((digR (s.drop (k+1)) n).1 % z)::(digR (s.drop (k+1)) n).2):=by
 rw [dropA_cons h,digR]
theorem pos_of_prod:∀ {s:List Int},Small s→0<prodL s→∀ z ∈ s,0<z:=fun {s} hs h z hz=>by
 have h0:=(hs z hz).1
 rcases Int.lt_or_eq_of_le h0 with h1|h1
 ·exact h1
 ·subst h1
  rw [prodL_zero hz] at h
  omega
theorem shAt_m (s:List Int) (n:Int) (h1:(cnt s).2=0) (n0:0≤n) (n1:n<(cnt s).1):AMut Tryz.prog 134 [.sl 1 (intsA .i64 s),.lit (.int .i64 n)] [] 0 (.tup [.own 0,.lit (.bool true)]) [(0,some ⟨true,false,3,1,intsA .i64 (digR s n).2⟩)] 1:=by
 have ls:=intsA_len .i64 s
 have hl6:=cnt_len h1
 have hsm:=cnt_small h1
 have hle:=cnt_le s
 have hpos:=pos_of_prod hsm (by rw [← cnt_prod h1]; omega)
 have c1:=count_a s
 rw [h1] at c1
 refine amut_of code_shape_At (by simp [fn_shape_At]) fun C hC => ?_
 refine walk2 ?_
 refine aw_loopB [0,4,5,8] [] (fun p:Nat=>[(1,.lit (.int .i64 (digR (s.drop p) n).1)),(9,.lit (.int .i64 ((p:Int) - 1)))]) (fun p=>[(0,some ⟨true,false,3,1,intsA .i64 (List.replicate p 0++(digR (s.drop p) n).2)⟩)]) 1
  (fun p=>p≤s.length∧0≤(digR (s.drop p) n).1∧(digR (s.drop p) n).1≤n) (fun p=>p) s.length ⟨Nat.le_refl _,by simp [digR]; omega,by simp [digR]⟩ ?_
  (ht:=by simp only [List.drop_length,digR]; rfl) (hh:=by simp only [List.drop_length,digR,List.append_nil,← intsA_rep]; rfl)
 rintro c ⟨hc,d0,d1⟩
 dsimp only [List.cons_append,List.nil_append]
 cases c with
 | zero =>
   simp only [List.drop_zero,List.replicate_zero,List.nil_append]
   refine walk2 ?_
   exact fin_m []
 | succ k =>
   obtain ⟨z,hz⟩:∃ z,s[k]? = some z:=⟨_,List.getElem?_eq_getElem (by omega)⟩
   have hzp:=hpos z (List.mem_of_getElem? hz)
   have hzs:=hsm z (List.mem_of_getElem? hz)
   have hi:(((k+1:Nat):Int) - 1).toNat=k:=by omega
   have hzk:(intsA .i64 s)[(((k+1:Nat):Int) - 1).toNat]? = some [.lit (.int .i64 z)]:=by rw [hi]; exact int_at hz
   have hdk:=digR_at hz n
   generalize digR (s.drop (k+1)) n=D at d0 d1 hdk ⊢
   obtain ⟨q,ds⟩:=D
   simp only at d0 d1 hdk ⊢
   have hget:(intsA .i64 (List.replicate (k+1) 0++ds))[(((k+1:Nat):Int) - 1).toNat]? = some [.lit (.int .i64 0)]:=by
    rw [hi]; exact int_at (by rw [List.getElem?_append_left (by simp)]; simp)
   have hll:(intsA .i64 (List.replicate (k+1) 0++ds)).length=k+1+ds.length:=by simp [intsA]
   have hset:(intsA .i64 (List.replicate (k+1) 0++ds)).set (((k+1:Nat):Int) - 1).toNat [.lit (.int .i64 (q % z))]=intsA .i64 (List.replicate k 0++(q % z)::ds):=by
    rw [hi,intsA_set,rep_set]
   have hq0:0≤q / z:=Int.ediv_nonneg d0 (by omega)
   have hq1:q / z≤q:=Int.ediv_le_self _ d0
   refine walk2 ?_
   refine ⟨k,by omega,⟨by omega,by rw [hdk]; exact hq0,by rw [hdk]; show q / z≤n; omega⟩,wkR hC.m [] ?_⟩
   rw [hdk,show ((k:Nat):Int) - 1=((k+1:Nat):Int) - 1 - 1 from by omega]
   simp only
   rw [← hset]
   rfl
theorem shAround_a (s:List Int) (a:Nat) (z:Int) (h1:(cnt s).2=0) (hz:s[a]? = some z):ACalls Tryz.prog 97 [.sl 1 (intsA .i64 s),.lit (.int .i64 a)] (.tup [.lit (.int .i64 (prodC (s.take a) 1)),.lit (.int .i64 z),.lit (.int .i64 (prodC (s.drop (a+1)) 1)),.lit (.bool true)]):=by
 have hB:maxB=1000000000:=rfl
 have ls:=intsA_len .i64 s
 have hl6:=cnt_len h1
 have hsm:=cnt_small h1
 have ha:=(List.getElem?_eq_some_iff.1 hz).1
 have hzk:=int_at (k:=.i64) hz
 have c1:=count_a s
 rw [h1] at c1
 have c2:=product_a (s.take a) (fun y hy=>hsm y (List.mem_of_mem_take hy)) (by simp; omega)
 have c3:=product_a (s.drop (a+1)) (fun y hy=>hsm y (List.mem_of_mem_drop hy)) (by simp; omega)
 have k1:=Cut.upto (k:=.i64) (s:=s) (b:=a) (by omega)
 have k2:=Cut.from (k:=.i64) (s:=s) (a:=a+1) (by omega)
 refine acalls_of code_shape_Around (by simp [fn_shape_Around]) fun C hC => ?_
 refine walk2 ?_
 exact fin
theorem shWith_a (s:List Int) (a:Nat) (n:Int) (h:a<s.length) (hl:s.length≤maxB):ACalls Tryz.prog 132 [.sl 1 (intsA .i64 s),.lit (.int .i64 a),.lit (.int .i64 n)] (.tup [.sl 1 (intsA .i64 (s.set a n)),.lit (.bool true)]):=by
 have hB:maxB=1000000000:=rfl
 have ls:=intsA_len .i64 s
 have c1:=cloneInt_m (intsA .i64 s) (by omega) (by omega)
 obtain ⟨z,hz⟩:∃ z,s[a]? = some z:=⟨_,List.getElem?_eq_getElem h⟩
 have hzk:=int_at (k:=.i64) hz
 have hset:=intsA_set .i64 s a n
 refine acalls_of code_shape_With (by simp [fn_shape_With]) fun C hC => ?_
 refine walk2 ?_
 refine aw_reg (rrun2 ?_)
 refine r_callN [] c1 ?_
 refine rrun2 ?_
 refine rg_nil ⟨rfl,?_⟩
 refine walk2 ?_
 rw [← hset]
 exact fin
theorem digR_range:∀ (s:List Int) (n:Int),Small s→∀ x ∈ (digR s n).2,0≤x∧x≤1000000∨(∃ z ∈ s,z=0)
 | [],n,_,x,hx=>by simp [digR] at hx
 | z::s,n,hs,x,hx=>by
   simp only [digR,List.mem_cons] at hx
   have hz:=hs z (by simp)
   by_cases h0:z=0
   ·exact .inr ⟨z,by simp,h0⟩
   rcases hx with rfl|hx
   ·left
    have h1:=Int.emod_nonneg (digR s n).1 h0
    have h2:=Int.emod_lt_of_pos (digR s n).1 (show 0<z by omega)
    omega
   ·rcases digR_range s n (fun y hy=>hs y (by simp [hy])) x hx with h|⟨y,hy,e⟩
    ·exact .inl h
    ·exact .inr ⟨y,by simp [hy],e⟩
def cellD:Cell:=.mk 0 0 ⟨false,[],[]⟩ 0 []
theorem digR_append:∀ (s t:List Int) (n:Int),digR (s++t) n=((digR s (digR t n).1).1,(digR s (digR t n).1).2++(digR t n).2)
 | [],t,n=>by simp [digR]
 | z::s,t,n=>by simp only [List.cons_append,digR,digR_append s t n]
theorem prodL_cons (z:Int) (s:List Int):prodL (z::s)=z * prodL s:=rfl
section
variable {s1 s2:List Int} {L:Int}
end
theorem prodC_zero:∀ (l:List Int) (o:Int),Small l→(0:Int) ∈ l→prodC l o=0
 | [],o,_,h=>by simp at h
 | z::l,o,hs,h=>by
   simp only [prodC]
   split
   ·rfl
   ·rcases List.mem_cons.1 h with h|h
    ·subst h
     rw [Int.mul_zero]
     have:∀ (l:List Int),prodC l 0=0:=by
      intro l
      induction l with
      | nil=>rfl
      | cons y l ih=>simp only [prodC,Int.zero_mul]; simpa using ih
     exact this l
    ·exact prodC_zero l _ (fun y hy=>hs y (by simp [hy])) h
theorem prodC_cnt {r:List Int} (h:(cnt r).2=0):prodC r 1=prodL r:=by
 have hs:=cnt_small h
 by_cases h0:(0:Int) ∈ r
 ·rw [prodC_zero r 1 hs h0,prodL_zero h0]
 ·have hpos:∀ z ∈ r,0<z:=fun z hz=>by
   have:=(hs z hz).1
   rcases Int.lt_or_eq_of_le this with h1|h1
   ·exact h1
   ·subst h1; exact absurd hz h0
  have hne:prodC r 1≠0:=by
   intro e
   have h2:=prodL_pos r hpos
   rw [← cnt_prod h] at h2
   unfold cnt at h h2
   split at h
   ·simp at h
   ·split at h
    ·simp at h
    ·split at h
     ·simp at h
     ·split at h
      ·rename_i hz; simp only [List.any_eq_true,beq_iff_eq] at hz; obtain ⟨z,hz,e'⟩:=hz; subst e'; exact h0 hz
      ·simp at h
  rw [prodC_eq r 1 (by omega) hpos hne,Int.one_mul]
def covG (l a:Nat):Nat:=a ||| l
mutual
def relabA (g:Nat→Nat):Arr→Arr
 | .mk s sh cs=>.mk (g s) sh (relabCs g cs)
def relabCs (g:Nat→Nat):List Cell→List Cell
 | []=>[]
 | c::cs=>relabC g c::relabCs g cs
def relabC (g:Nat→Nat):Cell→Cell
 | .mk l k n ch ins=>.mk (g l) k n ch (relabAs g ins)
def relabAs (g:Nat→Nat):List Arr→List Arr
 | []=>[]
 | a::xs=>relabA g a::relabAs g xs
end
theorem relabCs_map (g:Nat→Nat):∀ cs:List Cell,relabCs g cs=cs.map (relabC g)
 | []=>rfl
 | c::cs=>by rw [relabCs,relabCs_map g cs]; rfl
theorem relabAs_map (g:Nat→Nat):∀ cs:List Arr,relabAs g cs=cs.map (relabA g)
 | []=>rfl
 | c::cs=>by rw [relabAs,relabAs_map g cs]; rfl
theorem relabA_eq (g:Nat→Nat) (A:Arr):relabA g A=.mk (g A.s) A.shape (A.cells.map (relabC g)):=by cases A; rw [relabA,relabCs_map]; rfl
theorem relabC_eq (g:Nat→Nat) (c:Cell):relabC g c=.mk (g c.l) c.kind c.n c.c (c.ins.map (relabA g)):=by cases c; rw [relabC,relabAs_map]; rfl
def relV (g:Nat→Nat) (c:Cell):List AV:=cellV (.mk (g c.l) c.kind c.n c.c (c.ins.map (relabA g)))
def relW (g:Nat→Nat) (a:Arr):List AV:=arrV (relabA g a)
theorem arrR_relab (g:Nat→Nat) (xs:List Arr):xs.map (relW g)=(xs.map (relabA g)).map arrR:=by
 rw [List.map_map]; exact List.map_congr_left (fun a _=>(arrR_eq _).symm)
theorem cellR_relab (g:Nat→Nat) (xs:List Cell):xs.map (relV g)=(xs.map (relabC g)).map cellR:=by
 rw [List.map_map]; exact List.map_congr_left (fun a _=>by show cellV (.mk (g a.l) a.kind a.n a.c (a.ins.map (relabA g)))=cellR (relabC g a); rw [← relabC_eq]; exact (cellR_eq _).symm)
theorem Cover1_a (l:Nat) (hl:l<18446744073709551616) (a:Nat) (ha:a<18446744073709551616):ACalls Tryz.prog 29 [labV a,.ep 1 [[labV l]] 0 0] (labV (a ||| l)):=by
 have c1:=join_a a l ha hl
 refine acalls_of code_array_Cover_1 (by simp [fn_array_Cover_1]) fun C hC => ?_
 refine walk2 ?_
 exact ⟨_,_,rfl,rfl,Sub.refl _⟩
theorem relabC_a (l:Nat) (hl:l<18446744073709551616):∀ (A:Arr),okA A→ACalls Tryz.prog 28 [.agg (arrV A),.fn 29 [] [.ep 1 [[labV l]] 0 0]] (.agg (arrV (relabA (covG l) A)))
 | A,hA=>by
   have hB:maxB=1000000000:=rfl
   have lcs:=cells_len A
   have lsh:=intsA_len .i64 A.shape
   obtain ⟨a1,a2,a3,a4⟩:=hA.parts
   refine acalls_of code_array_relabel (by simp [fn_array_relabel]) fun C hC => ?_
   have c1:=Cover1_a l hl A.s a1
   have c2:=cloneInt_a (intsA .i64 A.shape) (by omega)
   rw [relabA_eq]
   refine walk2 ?_
   refine aw_loopB [1,2,4,5,24,25] [0,1,3] (fun k:Nat=>[(26,.lit (.int .i64 k))]) (fun k=>[(2,some ⟨true,false,54,7,rowK (relV (covG l)) cellZ A.cells k⟩)]) 4
    (fun k=>k≤A.cells.length) (fun k=>A.cells.length - k) 0 (Nat.zero_le _) ?_ (hh:=by rw [← rowK_zero]; rfl)
   intro k hk
   dsimp only [List.cons_append,List.nil_append]
   by_cases hlt:k<A.cells.length
   ·obtain ⟨c,hc⟩:∃ c,A.cells[k]? = some c:=⟨_,List.getElem?_eq_getElem hlt⟩
    have hck:=cell_at hc
    have hcm:=List.mem_of_getElem? hc
    have hcok:=okCs_mem.1 a4 c hcm
    obtain ⟨b1,b2,b3,b4,b5⟩:=hcok.parts
    have lin:=ins_len c
    have c3:=Cover1_a l hl c.l b1
    have hrl:=rowK_len (relV (covG l)) cellZ A.cells k hk
    have hrg:=rowK_get (relV (covG l)) cellZ A.cells k hlt
    have hrs:=rowK_set (relV (covG l)) cellZ A.cells k c hc
    have ht:SizeOf.sizeOf c<SizeOf.sizeOf A:=Nat.lt_trans (cell_size hcm) A.size
    refine walk2 ?_
    refine aw_nil 8 26 3 rfl ?_
    refine aw_loopB [1,2,4,5,24,25,26,6,7,37,38] [0,1,2,3,4] (fun j:Nat=>[(39,.lit (.int .i64 j)),(8,.own 5)]) (fun j=>[(5,some ⟨true,false,26,3,mapK (relW (covG l)) c.ins j⟩)]) 6
     (fun j=>j≤c.ins.length) (fun j=>c.ins.length - j) 0 (Nat.zero_le _) ?_
    intro j hj
    dsimp only [List.cons_append,List.nil_append]
    by_cases hlj:j<c.ins.length
    ·obtain ⟨x,hx⟩:∃ x,c.ins[j]? = some x:=⟨_,List.getElem?_eq_getElem hlj⟩
     have hxk:=arr_at hx
     have hxm:=List.mem_of_getElem? hx
     have hxok:=okAs_mem.1 b5 x hxm
     have ht2:SizeOf.sizeOf x<SizeOf.sizeOf A:=Nat.lt_trans (arr_size hxm) (Nat.lt_trans c.size ht)
     have c4:=relabC_a l hl x hxok
     have hms:=mapK_step (relW (covG l)) c.ins j x hx
     have hml:=mapK_len (relW (covG l)) c.ins j
     refine walk2 ?_
     exact ⟨j+1,by omega,by omega,wkR hC.m [(5,8)] (by rw [← hms]; rfl)⟩
    ·have hme:=mapK_end (relW (covG l)) c.ins j hlj
     rw [hme,arrR_relab]
     refine aw_freeze 5 rfl ?_
     refine walk2 ?_
     exact ⟨k+1,by omega,by omega,wkR hC.m [] (by rw [← hrs]; rfl)⟩
   ·have hre:=rowK_end (relV (covG l)) cellZ A.cells k hlt
    rw [hre,cellR_relab]
    refine walk2 ?_
    exact ⟨_,_,rfl,rfl,Sub.refl _⟩
 termination_by A=>SizeOf.sizeOf A
theorem cover_a (A:Arr) (l:Nat) (hA:okA A) (hl:l<18446744073709551616):ACalls Tryz.prog 8 [.agg (arrV A),labV l] (.agg (arrV (relabA (covG l) A))):=by
 have c1:=relabC_a l hl A hA
 refine acalls_of code_array_Cover (by simp [fn_array_Cover]) fun C hC => ?_
 refine walk2 ?_
 exact ⟨_,_,rfl,rfl,Sub.refl _⟩
mutual
theorem okA.relab {g:Nat→Nat} (hg:∀ a,a<18446744073709551616→g a<18446744073709551616):∀ {A:Arr},okA A→okA (relabA g A)
 | .mk s sh cs,h=>by
   simp only [okA] at h
   simp only [relabA,okA,relabCs_map,List.length_map]
   exact ⟨hg _ h.1,h.2.1,h.2.2.1,by rw [← relabCs_map]; exact okCs.relab hg h.2.2.2⟩
theorem okCs.relab {g:Nat→Nat} (hg:∀ a,a<18446744073709551616→g a<18446744073709551616):∀ {A:List Cell},okCs A→okCs (relabCs g A)
 | [],h=>by simp [relabCs,okCs]
 | c::cs,h=>by
   simp only [okCs] at h
   simp only [relabCs,okCs]
   exact ⟨okC.relab hg h.1,okCs.relab hg h.2⟩
theorem okC.relab {g:Nat→Nat} (hg:∀ a,a<18446744073709551616→g a<18446744073709551616):∀ {A:Cell},okC A→okC (relabC g A)
 | .mk l k n c ins,h=>by
   simp only [okC] at h
   simp only [relabC,okC,relabAs_map,List.length_map]
   exact ⟨hg _ h.1,h.2.1,h.2.2.1,h.2.2.2.1,by rw [← relabAs_map]; exact okAs.relab hg h.2.2.2.2⟩
theorem okAs.relab {g:Nat→Nat} (hg:∀ a,a<18446744073709551616→g a<18446744073709551616):∀ {A:List Arr},okAs A→okAs (relabAs g A)
 | [],h=>by simp [relabAs,okAs]
 | c::cs,h=>by
   simp only [okAs] at h
   simp only [relabAs,okAs]
   exact ⟨okA.relab hg h.1,okAs.relab hg h.2⟩
end
theorem arrT:ArrT Tryz.prog 26 54 51 23 24 52 49 22 3 4 145 :=
 ⟨⟨_,_,_,Tryz.underlying26,rfl,rfl,rfl,rfl,rfl,rfl⟩,⟨_,_,_,_,_,Tryz.underlying54,rfl,rfl,rfl,rfl,rfl,rfl,rfl,rfl,rfl,rfl⟩,⟨_,_,_,Tryz.underlying51,rfl,rfl,rfl,rfl,rfl,rfl⟩,
   Tryz.underlying23,Tryz.underlying24,Tryz.underlying52,Tryz.underlying49,Tryz.underlying22,Tryz.underlying3,Tryz.underlying4,Tryz.underlying145,
    ⟨by kernel_rfl,by kernel_rfl,by kernel_rfl,by kernel_rfl,by kernel_rfl,by kernel_rfl,by kernel_rfl,by kernel_rfl,by kernel_rfl,by kernel_rfl,by kernel_rfl⟩,
     ⟨of_decide_eq_true (by kernel_rfl),of_decide_eq_true (by kernel_rfl),of_decide_eq_true (by kernel_rfl),of_decide_eq_true (by kernel_rfl)⟩⟩
abbrev arrTs:List TypeId:=[26,54,51,23,24,52,49,22,3,4,145]
theorem arrTs_closed:closedB Tryz.prog arrTs=true:=by kernel_rfl
section
variable {H:Type} {enc:TypeId × Value→H} {W:World} {held:Bool}
theorem open_arr {fuel:Nat} {c:Array Value} {x:DataW H × List MemPlace} (h:DataW.trod enc Tryz.prog W 0 (fun _=>true) held fuel 26 c.toList=some x) (hw:∀ k ∈ x.1.weights Tryz.prog 26,k≤reachBytes) :
 ∃ A:Arr,RdI (fun b=>b<W.heap.size) W (.agg (arrV A)) (.agg c)∧arrOK A:=by
 obtain ⟨avs,r1,r2,_,r4⟩:=trod_typ arrTs_closed fuel _ _ x (by simp [arrTs]) h hw
 obtain ⟨A,rfl,ok⟩:=typ_arr arrT fuel avs r4
 exact ⟨A,⟨c.toList,by simp,r2,by rw [← arrR_eq]; exact r1⟩,ok⟩
end
section
variable {H:Type} {enc:TypeId × Value→H} {W:World} {held:Bool}
end
theorem lab_nat {z:Int} (h:(Lit.int .u64 z).wf=true):∃ n:Nat,z=(n:Int)∧n<18446744073709551616:=by
 have h':IntKind.u64.min≤z∧z≤IntKind.u64.max:=by simpa [Lit.wf] using h
 have h1:IntKind.u64.min=0:=by decide
 have h2:IntKind.u64.max=18446744073709551615:=by decide
 exact ⟨z.toNat,by omega,by omega⟩
theorem RdL.setAt {E:Env} {w:World} {b:AV}:∀ {cs:List AV} {vs:List Value} {i:Nat} {a:AV},RdL E w cs vs→cs[i]? = some a→(∀ v,Rd E w a v→Rd E w b v)→RdL E w (cs.set i b) vs
 | [],_,_,_,_,h,_=>by simp at h
 | x::cs,vs,0,a,⟨v,rest,e,h1,h2⟩,h,hb=>by
   simp only [List.getElem?_cons_zero,Option.some.injEq] at h
   subst h
   exact ⟨v,rest,e,hb v h1,h2⟩
 | x::cs,vs,i+1,a,⟨v,rest,e,h1,h2⟩,h,hb=>⟨v,rest,e,h1,RdL.setAt h2 (by simpa using h) hb⟩
section
variable {P:Program} {C:Ctx} {Q:Exit→St→Prop} {st:St}
theorem aw_nilF {c:ACode} (j i:Nat) (e:TypeId) (sz:Nat) {o:OB} {row:List AV} (hj:hl st.h j=some o) (hr:o.row=false) (hes:o.es=[row]) (hi:row[i]? = some (.lit (.slice none 0 0)))
 (h:AW P C c Q ⟨st.t,(st.nx,some ⟨true,false,e,sz,[]⟩)::(j,some { o with es:=[row.set i (.own st.nx)] })::st.h,st.nx+1⟩) (hz:Nat.blt 0 o.sz=true:=by rfl):AW P C c Q st:=by
 refine aw_weak (fun E a w R => ?_) h
 have hid:¬ E.live st.nx:=fun hl=>absurd (R.nx _ hl) (Nat.lt_irrefl _)
 have hl0:=newE_live (V:=.slice none 0 0) (sz:=sz) hid
 have hval:(newE E st.nx (.slice none 0 0) sz).val st.nx=.slice none 0 0:=by simp [newE]
 have hsz:(newE E st.nx (.slice none 0 0) sz).sz st.nx=sz:=by simp [newE]
 have hne:∀ k,E.live k→k≠st.nx:=fun k hk e=>hid (e ▸ hk)
 have hlv:∀ k,(newE E st.nx (.slice none 0 0) sz).live k→k≠st.nx→E.live k:=fun k hk h=>by
  rcases hk with hk|hk
  ·exact hk
  ·exact absurd hk h
 have hold:∀ k o',hl ((j,some { o with es:=[row.set i (.own st.nx)] })::st.h) k=some o'→∃ o0,hl st.h k=some o0∧o0.ro=o'.ro:=fun k o' hk=>by
  rcases hl_new hk with ⟨rfl,e1⟩|⟨_,e1⟩
  ·simp only [Option.some.injEq] at e1
   subst e1
   exact ⟨o,hj,rfl⟩
  ·exact ⟨o',e1,rfl⟩
 refine ⟨newE E st.nx (.slice none 0 0) sz,R.defers,R.size,fun k => ?_,⟨?_,?_,?_,R.heap.lt⟩,?_,?_,?_,R.imx,R.imn,R.frm⟩
 ·exact Rd.mono hl0 (fun b hb=>hb) (fun b _=>rfl) _ _ (R.tm k)
 ·intro k o' hk ho
  rcases hl_new ho with ⟨rfl,e1⟩|⟨hkn,e1⟩
  ·simp only [Option.some.injEq] at e1
   subst e1
   refine ⟨hsz,[],none,0,hval,?_,rfl,(fun u hu=>by cases hu),Nat.zero_le _⟩
   rw [hval]
   exact ⟨by simp,.inl ⟨rfl,rfl⟩⟩
  ·have hlk:=hlv k hk hkn
   obtain ⟨k1,k2,k3⟩:=hl0 k hlk
   rcases hl_new e1 with ⟨rfl,e2⟩|⟨_,e2⟩
   ·simp only [Option.some.injEq] at e2
    subst e2
    have hob:=(R.heap.ob k o hlk hj).mono ⟨k2,k3⟩ hl0 (fun b hb=>hb) (fun b _=>rfl) (fun b _=>rfl)
    obtain ⟨m1,m2⟩:=hob
    rw [hr] at m2
    have hpos:0<o.sz:=by simpa [Nat.blt_eq] using hz
    obtain ⟨g,vs,cs,p1,p2,p3,p4,p5,p6⟩:obBox0 _ _ _ _:=m2.elim (fun h=>h.2) (fun h=>absurd h.1 (by omega))
    rw [hes] at p3
    simp only [List.cons.injEq,and_true] at p3
    subst p3
    refine ⟨m1,?_⟩
    show cond o.row _ _
    rw [hr]
    refine .inl ⟨hpos,g,vs,_,p1,p2,rfl,p4,RdL.setAt p5 hi (fun v hv => ?_),p6⟩
    have hv':v=.slice none 0 0:=hv
    subst hv'
    exact ⟨.inr rfl,rfl,hval.symm⟩
   ·exact (R.heap.ob k o' hlk e2).mono ⟨k2,k3⟩ hl0 (fun b hb=>hb) (fun b _=>rfl) (fun b _=>rfl)
 ·intro k k' o o' b hk hk' ho ho' hb hb'
  by_cases h1:k=st.nx
  ·subst h1; rw [hval] at hb; cases hb
  by_cases h2:k'=st.nx
  ·subst h2; rw [hval] at hb'; cases hb'
  have l1:=hlv k hk h1
  have l2:=hlv k' hk' h2
  rw [(hl0 k l1).2.1] at hb
  rw [(hl0 k' l2).2.1] at hb'
  rcases hl_new ho with ⟨e1,_⟩|⟨_,e1⟩
  ·exact absurd e1 h1
  rcases hl_new ho' with ⟨e2,_⟩|⟨_,e2⟩
  ·exact absurd e2 h2
  obtain ⟨o0,f1,_⟩:=hold k _ e1
  obtain ⟨o1,f2,_⟩:=hold k' _ e2
  exact R.heap.apart k k' o0 o1 b l1 l2 f1 f2 hb hb'
 ·intro k o b hk ho hb
  by_cases h1:k=st.nx
  ·subst h1; rw [hval] at hb; cases hb
  have l1:=hlv k hk h1
  rw [(hl0 k l1).2.1] at hb
  rcases hl_new ho with ⟨e1,_⟩|⟨_,e1⟩
  ·exact absurd e1 h1
  obtain ⟨o0,f1,f2⟩:=hold k _ e1
  rw [← f2]
  exact R.heap.im k o0 b l1 f1 hb
 ·intro k hk
  by_cases h1:k=st.nx
  ·subst h1; exact Nat.lt_succ_self _
  ·exact Nat.lt_succ_of_lt (R.nx k (hlv k hk h1))
 ·intro k o b hk ho hb
  by_cases h1:k=st.nx
  ·subst h1; rw [hval] at hb; cases hb
  have l1:=hlv k hk h1
  rw [(hl0 k l1).2.1] at hb
  rcases hl_new ho with ⟨e1,_⟩|⟨_,e1⟩
  ·exact absurd e1 h1
  obtain ⟨o0,f1,_⟩:=hold k _ e1
  exact R.own k o0 b l1 f1 hb
 ·intro k hk
  obtain ⟨k1,k2,k3⟩:=R.ext k hk
  obtain ⟨j1,j2,j3⟩:=hl0 k k1
  exact ⟨j1,by rw [j2]; exact k2,by rw [j3]; exact k3⟩
end
section
variable {P:Program} {st:St} {d:Option Nat} {g:Option (Nat × Bool)}
theorem q_sliceO {sz:Nat} {x y:Operand} {id k:Nat} {ob:OB} (hg:gOK st g) (hx:ev st x=.own id) (ho:hl st.h id=some ob) (hrow:ob.row=true) (hro:ob.ro=false) (hsz:ob.sz=sz) (hy:∃ kk,ev st y=.lit (.int kk k)) (hk:k≤ob.es.length) :
 Step P st ⟨⟨d,g,.slice sz x none (some y) none⟩,.own st.nx,[],[(st.nx,some ⟨true,false,ob.e,sz,ob.es.take k⟩),(id,none)],1⟩:=by
 intro N ops o hlow C E a w sx hN R hag hh hnw K Q hK
 rw [if_pos (wanted_of hlow R hag hg)]
 obtain ⟨h1,h2,h3,h4⟩:=lower_parts hlow
 obtain ⟨hnl,hnx⟩:=hnw 0 (Nat.lt_succ_self 0)
 obtain ⟨kk,hy⟩:=hy
 have hsv:=eval_of R hag (x:=x) (by simp [AOp.opds])
 have hyv:=lit_eval (eval_of R hag (x:=y) (by simp [AOp.opds,oL])) hy
 rw [hx] at hsv
 obtain ⟨hl1,_,hsv⟩:=hsv
 have ho':hl sx.h id=some ob:=by rw [hh id (.inr (by simp))]; exact ho
 obtain ⟨k1,k2⟩:=R.heap.ob id ob hl1 ho'
 rw [hrow] at k2
 obtain ⟨vs,a0,cap,j1,j2,j3,j4,j5⟩:=k2
 obtain ⟨dst,op,ty,pos,after,guard⟩:=o
 obtain ⟨t,e,gg,rfl,het,hs⟩:=low_spec h3
 have hcapn:ob.es.length≤cap:=by
  rcases j2.2 with ⟨q1,q2⟩|⟨g',c',cur,q1,_,_,q3,_⟩
  ·omega
  ·rw [j1] at q1; simp only [Value.slice.injEq] at q1; omega
 have hrun:=sliceAt_run (P:=P) (w:=w) (a:=a0) (len:=ob.es.length) (cap:=cap) (lo:=none) (hi:=some (.int kk k)) (mx:=none) (l:=0) (h:=k) (m:=cap) (elemsOf_spec het) hs rfl ⟨kk,rfl⟩ rfl (Nat.zero_le _) (by omega) (by omega) (by simp)
 have ha0:(if cap=0 then a0 else a0.map (·.add (0 * sz)))=a0:=by
  split
  ·rfl
  ·cases a0 with
   | none=>rfl
   | some y =>
     rcases j2.2 with ⟨q1,q2⟩|⟨g',c',cur,q1,_,_,q3,_⟩
     ·rw [j1] at q1; simp at q1
     ·rw [j1] at q1; simp only [Value.slice.injEq,Option.some.injEq] at q1; rw [q1.1]; simp [addr_add]
 rw [ha0,Nat.sub_zero,Nat.sub_zero] at hrun
 have hlen:(ob.es.take k).length=k:=by simp; omega
 unfold Oper.wp
 have hex:(execOp a.eval ⟨dst,.slice t x none (some y) none,ty,pos,after,guard⟩).run P w=.ok (.value (.slice a0 k cap)) w:=by
  simp only [execOp,hsv.trans j1,Option.map_none,Option.map_some,hyv,Sem.run_bind,hrun,Result.andThen_ok,Sem.run_pure]
 rw [hex,Oper.upon_value]
 rw [hsz] at j2 j3
 have hvl:=j2.1
 have hm:k * sz≤ob.es.length * sz:=Nat.mul_le_mul_right _ hk
 have hob:obOK (newE E st.nx (.slice a0 k cap) sz) w st.nx ⟨true,false,ob.e,sz,ob.es.take k⟩:=by
  refine ⟨by simp [newE],vs.take (k * sz),a0,cap,by simp [newE,hlen],?_,RdIE.take k j3,fun u hu=>j4 u (List.mem_of_mem_take hu),by rw [hlen]; omega⟩
  have hl2:(vs.take (k * sz)).length=(ob.es.take k).length * sz:=by rw [hlen,List.length_take,hvl]; exact Nat.min_eq_left hm
  refine ⟨hl2,?_⟩
  rcases j2.2 with ⟨q1,q2⟩|⟨g',c',cur,q1,q0,q3,q4,q5,q6,q7⟩
  ·left
   have:k=0:=by omega
   rw [j1] at q1
   simp only [Value.slice.injEq] at q1
   refine ⟨by simp [newE,this,q1.1,q1.2.2],by rw [hlen]; exact this⟩
  ·right
   rw [j1] at q1
   simp only [Value.slice.injEq] at q1
   obtain ⟨rfl,_,rfl⟩:=q1
   refine ⟨g',cap,cur,by simp [newE,hlen],q0,q3,by rw [hlen]; omega,q5,q6,?_⟩
   show List.take ((ob.es.take k).length * sz) cur.toList=_
   rw [hlen,← q7,List.take_take,Nat.min_eq_left hm]
 have hgr:w.grownBy w (blkOf (E.val id)):=⟨rfl,rfl,rfl,Nat.le_refl _,fun _ _ _=>rfl⟩
 have hR:=Rel.new R hnl hnx (some id) (blkOf (E.val id)) hgr (fun b hb'=>⟨id,ob,rfl,hl1,ho',hb',hro⟩) (V:=.slice a0 k cap) (ob:=⟨true,false,ob.e,sz,ob.es.take k⟩) hob rfl (fun b hb=>.inr (by rw [j1]; cases a0 with|none=>simp [blkOf] at hb|some y=>simpa [blkOf] using hb))
 refine hK _ w (newE E st.nx (.slice a0 k cap) sz) ?_ (fun id' hid=>Or.elim hid Or.inl (fun h=>.inr ⟨0,Nat.lt_succ_self 0,h⟩))
 have:=hR.put (d:=dst) (fun k hk=>by rw [hN]; exact h2 k hk) (v:=.own st.nx) (u:=.slice a0 k cap) ⟨.inr rfl,rfl,by simp [newE]⟩
 simp only [St.appx]
 rw [show d=dst from h1]
 exact this
end
section
variable {P:Program} {tt:List (Nat × AV)} {hh:Hp} {nn dd:Nat} {g:Option (Nat × Bool)} {l:List AInst} {acc:List SD} {K:List SD→St→Prop}
theorem r_sliceO {sz:Nat} {x y:Operand} {id k:Nat} {ob:OB} (hk:k≤ob.es.length)
 (h:RG P (⟨⟨some dd,g,.slice sz x none (some y) none⟩,.own nn,[],[(nn,some ⟨true,false,ob.e,sz,ob.es.take k⟩),(id,none)],1⟩::acc) l ⟨(dd,.own nn)::tt,(nn,some ⟨true,false,ob.e,sz,ob.es.take k⟩)::(id,none)::hh,nn+1⟩ K)
 (hg:gOK ⟨tt,hh,nn⟩ g:=by first|exact True.intro|rfl) (hx:ev ⟨tt,hh,nn⟩ x=.own id:=by rfl) (ho:hl hh id=some ob:=by rfl) (hrow:ob.row=true:=by rfl) (hro:ob.ro=false:=by rfl) (hsz:ob.sz=sz:=by rfl) (hy:∃ kk,ev ⟨tt,hh,nn⟩ y=.lit (.int kk k):=by exact ⟨_,rfl⟩) :
 RG P acc (⟨some dd,g,.slice sz x none (some y) none⟩::l) ⟨tt,hh,nn⟩ K:=RG.step (q_sliceO hg hx ho hrow hro hsz hy hk) h
end
section
variable {P:Program} {C:Ctx} {Q:Exit→St→Prop} {st:St}
theorem aw_slotZ {c:ACode} (n:Nat) (v:AV) (e:st.get n=v) (h:AW P C c Q ⟨(n,v)::st.t,st.h,st.nx⟩):AW P C c Q st :=
 aw_say (b:=v) n e (fun E w u hu=>hu) h
theorem aw_name {c:ACode} (n j:Nat) {o:OB} (hj:st.get n=.own j) (ho:hl st.h j=some o) (hrow:o.row=true) (hro:o.ro=false)
 (h:AW P C c Q ⟨(n,.own st.nx)::st.t,(st.nx,some o)::(j,none)::st.h,st.nx+1⟩):AW P C c Q st:=by
 refine aw_weak (fun E a w R => ?_) h
 have hid:¬ E.live st.nx:=fun hl=>absurd (R.nx _ hl) (Nat.lt_irrefl _)
 have hv:=R.tm n
 rw [hj] at hv
 obtain ⟨hl1,h1c,hv⟩:=hv
 have R1:Rel C E ⟨st.t,st.h,st.nx+1⟩ a w:=R.congr (fun _=>rfl) (fun _=>rfl) (Nat.le_succ _)
 have hgr:w.grownBy w (blkOf (E.val j)):=⟨rfl,rfl,rfl,Nat.le_refl _,fun _ _ _=>rfl⟩
 obtain ⟨k1,k2⟩:=R.heap.ob j o hl1 ho
 rw [hrow,cond_true] at k2
 obtain ⟨vs,a0,cap,j1,j2,j3,j4,j5⟩:=k2
 have hob:obOK (newE E st.nx (E.val j) o.sz) w st.nx o:=by
  refine ⟨by simp [newE],?_⟩
  rw [hrow,cond_true]
  exact ⟨vs,a0,cap,by simp [newE,j1],by simpa [newE] using j2,j3,j4,j5⟩
 have hR:=Rel.new R1 hid (Nat.lt_succ_self _) (some j) (blkOf (E.val j)) hgr (fun b hb'=>⟨j,o,rfl,hl1,ho,hb',hro⟩) hob hro (fun b hb=>.inr hb)
 refine ⟨newE E st.nx (E.val j) o.sz,hR.defers,hR.size,fun k => ?_,hR.heap,hR.nx,hR.own,hR.ext,hR.imx,hR.imn,hR.frm⟩
 by_cases hk:k=n
 ·subst hk
  have e1:St.get ⟨(k,.own st.nx)::st.t,(st.nx,some o)::(j,none)::st.h,st.nx+1⟩ k=.own st.nx:=getT_same st.t k _
  rw [e1]
  exact ⟨.inr rfl,h1c,by rw [hv]; simp [newE]⟩
 ·have e1:St.get ⟨(n,.own st.nx)::st.t,(st.nx,some o)::(j,none)::st.h,st.nx+1⟩ k=st.get k:=getT_ne st.t (some n) _ k (by simpa using fun h=>hk h.symm)
  rw [e1]
  exact hR.tm k
end
section
variable {P:Program} {st:St} {d:Option Nat} {g:Option (Nat × Bool)}
end
section
variable {P:Program} {st:St} {d:Option Nat} {g:Option (Nat × Bool)}
end
section
variable {P:Program} {tt:List (Nat × AV)} {hh:Hp} {nn dd:Nat} {g:Option (Nat × Bool)} {l:List AInst} {acc acc':List SD} {l':List AInst} {st':St}
end
theorem rrun3 {P:Program} {acc:List SD} {l:List AInst} {st:St} {acc':List SD} {l':List AInst} {st':St} {K:List SD→St→Prop} (h:RG P acc' l' st' K) (hR:Runs P acc l st acc' l' st':=by
 ((repeat (first
   | (first
     | apply s_movL (by first|exact True.intro|rfl) (by exact rfl)
     | apply s_movS (by first|exact True.intro|rfl) (by exact rfl)
     | apply s_movA (by first|exact True.intro|rfl) (by exact rfl)
     | apply s_movO (by first|exact True.intro|rfl) (by exact rfl)
     | apply s_movP (by first|exact True.intro|rfl) (by exact rfl)
     | apply s_movE (by first|exact True.intro|rfl) (by exact rfl)
     | apply s_movT (by first|exact True.intro|rfl) (by exact rfl)
     | apply s_movF (by first|exact True.intro|rfl) (by exact rfl)
     | apply s_movX (by first|exact True.intro|rfl) (by exact rfl)
     | apply s_noA (by exact rfl)
     | apply s_noB (by exact rfl)
     | apply s_noC (by exact rfl)
     | apply s_no (by exact rfl)
     | apply s_noN (by exact rfl)
     | apply s_add64 (by first|exact True.intro|rfl) (by exact rfl) (by exact rfl) (by omega) (by omega)
     | apply s_sub64 (by first|exact True.intro|rfl) (by exact rfl) (by exact rfl) (by omega) (by omega)
     | apply s_ltT (by first|exact True.intro|rfl) (by exact rfl) (by exact rfl) (by omega)
     | apply s_ltF (by first|exact True.intro|rfl) (by exact rfl) (by exact rfl) (by omega)
     | apply s_leT (by first|exact True.intro|rfl) (by exact rfl) (by exact rfl) (by omega)
     | apply s_leF (by first|exact True.intro|rfl) (by exact rfl) (by exact rfl) (by omega)
     | apply s_gtT (by first|exact True.intro|rfl) (by exact rfl) (by exact rfl) (by omega)
     | apply s_gtF (by first|exact True.intro|rfl) (by exact rfl) (by exact rfl) (by omega)
     | apply s_geT (by first|exact True.intro|rfl) (by exact rfl) (by exact rfl) (by omega)
     | apply s_geF (by first|exact True.intro|rfl) (by exact rfl) (by exact rfl) (by omega)
     | apply s_eqT (by first|exact True.intro|rfl) (by exact rfl) (by exact rfl) (by omega)
     | apply s_eqF (by first|exact True.intro|rfl) (by exact rfl) (by exact rfl) (by omega)
     | apply s_neT (by first|exact True.intro|rfl) (by exact rfl) (by exact rfl) (by omega)
     | apply s_neF (by first|exact True.intro|rfl) (by exact rfl) (by exact rfl) (by omega)
     | apply s_addU64 (by first|exact True.intro|rfl) (by exact rfl) (by exact rfl) (by omega) (by omega)
     | apply s_subU64 (by first|exact True.intro|rfl) (by exact rfl) (by exact rfl) (by omega) (by omega)
     | apply s_mulU64 (by first|exact True.intro|rfl) (by exact rfl) (by exact rfl) (by omega) (by omega)
     | apply s_divU64 (by first|exact True.intro|rfl) (by exact rfl) (by exact rfl) (by omega) (by omega) (by omega)
     | apply s_addU32 (by first|exact True.intro|rfl) (by exact rfl) (by exact rfl) (by omega) (by omega)
     | apply s_divI64 (by first|exact True.intro|rfl) (by exact rfl) (by exact rfl) (by omega) (by omega) (by omega)
     | apply s_remP (by first|exact True.intro|rfl) (by exact rfl) (by exact rfl) (by omega) (by omega)
     | apply s_mul64 (by first|exact True.intro|rfl) (by exact rfl) (by exact rfl) (by first|assumption|omega)
     | apply s_convU64 (by first|exact True.intro|rfl) (by exact rfl) (by omega) (by omega)
     | apply s_convU32 (by first|exact True.intro|rfl) (by exact rfl) (by omega) (by omega)
     | apply s_int (by first|exact True.intro|rfl) (by exact rfl) (by exact rfl) (by exact rfl)
     | apply s_div (by first|exact True.intro|rfl) (by exact rfl) (by exact rfl) (by omega)
     | apply s_rem (by first|exact True.intro|rfl) (by exact rfl) (by exact rfl) (by omega)
     | apply s_bool (by first|exact True.intro|rfl) (by exact rfl) (by exact rfl) (by exact rfl)
     | apply s_notT (by first|exact True.intro|rfl) (by exact rfl)
     | apply s_notF (by first|exact True.intro|rfl) (by exact rfl)
     | apply s_not (by first|exact True.intro|rfl) (by exact rfl)
     | apply s_pickTL (by first|exact True.intro|rfl) (by exact rfl) (by exact rfl)
     | apply s_pickFL (by first|exact True.intro|rfl) (by exact rfl) (by exact rfl)
     | apply s_pickTS (by first|exact True.intro|rfl) (by exact rfl) (by exact rfl)
     | apply s_pickFS (by first|exact True.intro|rfl) (by exact rfl) (by exact rfl)
     | apply s_pickTA (by first|exact True.intro|rfl) (by exact rfl) (by exact rfl)
     | apply s_pickFA (by first|exact True.intro|rfl) (by exact rfl) (by exact rfl)
     | apply s_pickTO (by first|exact True.intro|rfl) (by exact rfl) (by exact rfl)
     | apply s_pickFO (by first|exact True.intro|rfl) (by exact rfl) (by exact rfl)
     | apply s_pickTP (by first|exact True.intro|rfl) (by exact rfl) (by exact rfl)
     | apply s_pickFP (by first|exact True.intro|rfl) (by exact rfl) (by exact rfl)
     | apply s_pickTE (by first|exact True.intro|rfl) (by exact rfl) (by exact rfl)
     | apply s_pickFE (by first|exact True.intro|rfl) (by exact rfl) (by exact rfl)
     | apply s_pickTT (by first|exact True.intro|rfl) (by exact rfl) (by exact rfl)
     | apply s_pickFT (by first|exact True.intro|rfl) (by exact rfl) (by exact rfl)
     | apply s_pickTF (by first|exact True.intro|rfl) (by exact rfl) (by exact rfl)
     | apply s_pickFF (by first|exact True.intro|rfl) (by exact rfl) (by exact rfl)
     | apply s_pickTX (by first|exact True.intro|rfl) (by exact rfl) (by exact rfl))
   | (first
     | apply s_pickFX (by first|exact True.intro|rfl) (by exact rfl) (by exact rfl)
     | apply s_pickB (by first|exact True.intro|rfl) (by exact rfl) (by exact rfl) (by exact rfl)
     | apply s_conv64 (by first|exact True.intro|rfl) (by exact rfl) (by omega) (by omega)
     | apply s_conv (by first|exact True.intro|rfl) (by exact rfl)
     | apply s_faddr (by first|exact True.intro|rfl) (by exact rfl)
     | apply s_faddrE (by first|exact True.intro|rfl) (by exact rfl)
     | apply s_load1 (by first|exact True.intro|rfl) (by exact rfl) (by exact rfl) (by exact rfl) (by exact rfl)
     | apply s_loadA (by first|exact True.intro|rfl) (by exact rfl) (by exact rfl) (by exact rfl) (by exact rfl)
     | apply s_loadG (by first|exact True.intro|rfl) (by exact rfl) (by exact rfl) (by exact rfl) (by exact rfl)
     | apply s_loadE1 (by first|exact True.intro|rfl) (by exact rfl) (by first|assumption|rfl) (by exact rfl)
     | apply s_loadEA (by first|exact True.intro|rfl) (by exact rfl) (by first|assumption|rfl) (by exact rfl)
     | apply s_loadEG (by first|exact True.intro|rfl) (by exact rfl) (by first|assumption|rfl) (by exact rfl)
     | apply s_extract (by first|exact True.intro|rfl) (by exact rfl) (by exact rfl)
     | apply s_field1 (by first|exact True.intro|rfl) (by exact rfl) (by exact rfl)
     | apply s_fieldG (by first|exact True.intro|rfl) (by exact rfl) (by exact rfl)
     | apply s_len (by first|exact True.intro|rfl) (by exact rfl) (by first|assumption|rfl)
     | apply s_lenN (by first|exact True.intro|rfl) (by exact rfl)
     | apply s_lenO (by first|exact True.intro|rfl) (by exact rfl) (by exact rfl) (by exact rfl) (by first|assumption|rfl)
     | apply s_slen (by first|exact True.intro|rfl) (by exact rfl)
     | apply s_iaddr (by first|exact True.intro|rfl) (by exact rfl) (by exact rfl) (by omega) (by first|omega|assumption)
     | apply s_iaddrO (by first|exact True.intro|rfl) (by exact rfl) (by exact rfl) (by exact rfl) (by exact rfl) (by exact rfl) (by omega) (by first|omega|(dsimp only; omega))
     | apply s_nilckP (by first|exact True.intro|rfl) (by exact rfl)
     | apply s_nilckE (by first|exact True.intro|rfl) (by exact rfl)
     | apply s_nilckF (by first|exact True.intro|rfl) (by exact rfl)
     | apply s_mkfn (by first|exact True.intro|rfl)
     | apply s_alloc (by first|exact True.intro|rfl)
     | apply s_box (by first|exact True.intro|rfl) (by exact rfl) (by exact rfl) (by exact rfl)
     | apply s_build (by first|exact True.intro|rfl) (by exact rfl)
     | apply s_storeB (by first|exact True.intro|rfl) (by exact rfl) (by exact rfl) (by exact rfl) (by exact rfl) (by exact rfl) (by exact rfl) (by exact rfl) (by exact rfl) (by exact rfl) (by exact rfl)
     | apply s_callA (by first|exact True.intro|rfl) (by exact rfl) (by exact rfl) (by assumption)
     | apply s_callS (by first|exact True.intro|rfl) (by exact rfl) (by exact rfl) (by assumption) (by (repeat (first|exact SubL.nil|refine SubL.cons (by first|exact Sub.refl _|exact Sub.nil _|exact Sub.any _|(refine Sub.agg ?_; repeat (first|exact SubL.nil|refine SubL.cons (by first|exact Sub.refl _|exact Sub.nil _) ?_))) ?_)))
     | apply s_callB (by first|exact True.intro|rfl) (by exact rfl) (by exact rfl) (by assumption) (by exact rfl)
     | apply s_callR (by first|exact True.intro|rfl) (by exact rfl) (by exact rfl) (by assumption)
     | apply s_callF (by first|exact True.intro|rfl) (by exact rfl) (by exact rfl) (by exact rfl) (by exact rfl) (by assumption) (by (repeat (first|exact SubL.nil|refine SubL.cons (by first|exact Sub.refl _|exact Sub.nil _|exact Sub.any _|(refine Sub.agg ?_; repeat (first|exact SubL.nil|refine SubL.cons (by first|exact Sub.refl _|exact Sub.nil _) ?_))) ?_)))
     | apply s_min (by first|exact True.intro|rfl) (by exact rfl) (by exact rfl) (by first|exact .inl ⟨by omega,Eq.refl _⟩|exact .inr ⟨by omega,Eq.refl _⟩)
     | apply s_max (by first|exact True.intro|rfl) (by exact rfl) (by exact rfl) (by first|exact .inl ⟨by omega,Eq.refl _⟩|exact .inr ⟨by omega,Eq.refl _⟩)
     | apply s_cap (by first|exact True.intro|rfl) (by exact rfl)
     | apply s_mx3 (by first|exact True.intro|rfl) (by exact rfl) (by exact rfl) (by exact rfl) (by first|assumption|exact Eq.refl _)
     | apply s_storeR [] (by first|exact True.intro|rfl) (by exact rfl) (by exact rfl) (by exact rfl) (by exact rfl) (by first|assumption|rfl) (by exact rfl) (by exact rfl) (by exact rfl) (by exact rfl) (by exact rfl) (by exact rfl)
     | apply s_rowlit [] (by first|exact True.intro|rfl) (by exact rfl) (by exact rfl) (by exact rfl) (by exact rfl)
     | apply s_append [] (by first|exact True.intro|rfl) (by exact rfl) (by exact rfl) (by exact rfl) (by exact rfl) (by exact rfl) (by exact rfl) (by exact rfl) (by exact rfl) (by first|omega|assumption|(dsimp only; omega)|(simp only [List.length_append,List.length_cons,List.length_nil,List.length_map,List.length_replicate,List.length_take,List.length_drop,chunk,intsA]; omega))
     | apply s_appendN [] (by first|exact True.intro|rfl) (by exact rfl) (by exact rfl) (by exact rfl) (by first|omega|assumption|(dsimp only; omega)|(simp only [List.length_append,List.length_cons,List.length_nil,List.length_map,List.length_replicate,List.length_take,List.length_drop,chunk,intsA]; omega))
     | apply s_storeRR (by first|exact True.intro|rfl) (by exact rfl) (by exact rfl) (by exact rfl) (by exact rfl) (by first|assumption|rfl) (by exact rfl) (by exact rfl) (by exact rfl) (by exact rfl) (by exact rfl) (by exact rfl)
     | apply s_rowlitR (by first|exact True.intro|rfl) (by exact rfl) (by exact rfl) (by exact rfl) (by exact rfl)
     | apply s_appendR (by first|exact True.intro|rfl) (by exact rfl) (by exact rfl) (by exact rfl) (by exact rfl) (by exact rfl) (by exact rfl) (by exact rfl) (by exact rfl) (by first|omega|assumption|(dsimp only; omega)|(simp only [List.length_append,List.length_cons,List.length_nil,List.length_map,List.length_replicate,List.length_take,List.length_drop,chunk,intsA]; omega))
     | apply s_appendNR (by first|exact True.intro|rfl) (by exact rfl) (by exact rfl) (by exact rfl) (by first|omega|assumption|(dsimp only; omega)|(simp only [List.length_append,List.length_cons,List.length_nil,List.length_map,List.length_replicate,List.length_take,List.length_drop,chunk,intsA]; omega))
     | apply s_sliceC (by first|exact True.intro|rfl) (by exact rfl) (by first|exact Eq.refl _|exact ⟨_,Eq.refl _⟩) (by first|exact Eq.refl _|exact ⟨_,Eq.refl _⟩) (by assumption)
     | apply s_iaddrO (by first|exact True.intro|rfl) (by exact rfl) (by exact rfl) (by exact rfl) (by exact rfl) (by exact rfl) (by omega) (by simp only [List.length_set,List.length_append,List.length_cons,List.length_nil,List.length_replicate]; omega)
     | apply s_load1 (by first|exact True.intro|rfl) (by exact rfl) (by exact rfl) (by assumption) (by exact rfl)
     | apply s_loadA (by first|exact True.intro|rfl) (by exact rfl) (by exact rfl) (by assumption) (by exact rfl)
     | apply s_loadG (by first|exact True.intro|rfl) (by exact rfl) (by exact rfl) (by assumption) (by exact rfl)
     | apply s_eqvL (by first|exact True.intro|rfl) (by exact rfl) (by exact rfl) (by assumption) (by first|assumption|omega)
     | apply s_neg64 (by first|exact True.intro|rfl) (by exact rfl) (by omega) (by omega)
     | apply s_neg (by first|exact True.intro|rfl) (by exact rfl)
     | apply s_iaddrA (by first|exact True.intro|rfl) (by exact rfl) (by exact rfl) (by omega) (by omega)
     | apply s_iaddrAE (by first|exact True.intro|rfl) (by exact rfl) (by exact rfl) (by omega) (by omega)
     | apply s_load1 (by first|exact True.intro|rfl) (by exact rfl) (by exact rfl) (by exact rfl) (by assumption)
     | apply s_loadE1 (by first|exact True.intro|rfl) (by exact rfl) (by first|assumption|rfl) (by assumption)
     | apply s_storeB (by first|exact True.intro|rfl) (by exact rfl) (by exact rfl) (by exact rfl) (by exact rfl) (by exact rfl) (by exact rfl) (by exact rfl) (by exact rfl) (by assumption) (by assumption)
     | apply s_iaddr (by first|exact True.intro|rfl) (by exact rfl) (by exact rfl) (by omega) (by simp only [List.length_map]; omega)
     | apply s_eqvP0 (by first|exact True.intro|rfl) (by exact rfl) (by exact rfl) (by assumption)
     | apply s_eqvP1 (by first|exact True.intro|rfl) (by exact rfl) (by exact rfl) (by assumption)
     | apply s_eqvPE (by first|exact True.intro|rfl) (by exact rfl) (by exact rfl) (by assumption)
     | apply s_make (by first|exact True.intro|rfl) (by exact rfl) (by exact rfl) (by omega) (by omega) (by omega)))); exact Runs.refl _ _ _)):RG P acc l st K:=rg_runs hR h
theorem aw_R3 {P:Program} {C:Ctx} {Q:Exit→St→Prop} {st:St} {d:Bool} {l:List AInst} {free:List (Nat × Nat)} {acc:List SD} {st':St} (hQ:Q .normal st') (hR:Runs P [] l st acc [] st':=by
 ((repeat (first
   | (first
     | apply s_movL (by first|exact True.intro|rfl) (by exact rfl)
     | apply s_movS (by first|exact True.intro|rfl) (by exact rfl)
     | apply s_movA (by first|exact True.intro|rfl) (by exact rfl)
     | apply s_movO (by first|exact True.intro|rfl) (by exact rfl)
     | apply s_movP (by first|exact True.intro|rfl) (by exact rfl)
     | apply s_movE (by first|exact True.intro|rfl) (by exact rfl)
     | apply s_movT (by first|exact True.intro|rfl) (by exact rfl)
     | apply s_movF (by first|exact True.intro|rfl) (by exact rfl)
     | apply s_movX (by first|exact True.intro|rfl) (by exact rfl)
     | apply s_noA (by exact rfl)
     | apply s_noB (by exact rfl)
     | apply s_noC (by exact rfl)
     | apply s_no (by exact rfl)
     | apply s_noN (by exact rfl)
     | apply s_add64 (by first|exact True.intro|rfl) (by exact rfl) (by exact rfl) (by omega) (by omega)
     | apply s_sub64 (by first|exact True.intro|rfl) (by exact rfl) (by exact rfl) (by omega) (by omega)
     | apply s_ltT (by first|exact True.intro|rfl) (by exact rfl) (by exact rfl) (by omega)
     | apply s_ltF (by first|exact True.intro|rfl) (by exact rfl) (by exact rfl) (by omega)
     | apply s_leT (by first|exact True.intro|rfl) (by exact rfl) (by exact rfl) (by omega)
     | apply s_leF (by first|exact True.intro|rfl) (by exact rfl) (by exact rfl) (by omega)
     | apply s_gtT (by first|exact True.intro|rfl) (by exact rfl) (by exact rfl) (by omega)
     | apply s_gtF (by first|exact True.intro|rfl) (by exact rfl) (by exact rfl) (by omega)
     | apply s_geT (by first|exact True.intro|rfl) (by exact rfl) (by exact rfl) (by omega)
     | apply s_geF (by first|exact True.intro|rfl) (by exact rfl) (by exact rfl) (by omega)
     | apply s_eqT (by first|exact True.intro|rfl) (by exact rfl) (by exact rfl) (by omega)
     | apply s_eqF (by first|exact True.intro|rfl) (by exact rfl) (by exact rfl) (by omega)
     | apply s_neT (by first|exact True.intro|rfl) (by exact rfl) (by exact rfl) (by omega)
     | apply s_neF (by first|exact True.intro|rfl) (by exact rfl) (by exact rfl) (by omega)
     | apply s_addU64 (by first|exact True.intro|rfl) (by exact rfl) (by exact rfl) (by omega) (by omega)
     | apply s_subU64 (by first|exact True.intro|rfl) (by exact rfl) (by exact rfl) (by omega) (by omega)
     | apply s_mulU64 (by first|exact True.intro|rfl) (by exact rfl) (by exact rfl) (by omega) (by omega)
     | apply s_divU64 (by first|exact True.intro|rfl) (by exact rfl) (by exact rfl) (by omega) (by omega) (by omega)
     | apply s_addU32 (by first|exact True.intro|rfl) (by exact rfl) (by exact rfl) (by omega) (by omega)
     | apply s_divI64 (by first|exact True.intro|rfl) (by exact rfl) (by exact rfl) (by omega) (by omega) (by omega)
     | apply s_remP (by first|exact True.intro|rfl) (by exact rfl) (by exact rfl) (by omega) (by omega)
     | apply s_mul64 (by first|exact True.intro|rfl) (by exact rfl) (by exact rfl) (by first|assumption|omega)
     | apply s_convU64 (by first|exact True.intro|rfl) (by exact rfl) (by omega) (by omega)
     | apply s_convU32 (by first|exact True.intro|rfl) (by exact rfl) (by omega) (by omega)
     | apply s_int (by first|exact True.intro|rfl) (by exact rfl) (by exact rfl) (by exact rfl)
     | apply s_div (by first|exact True.intro|rfl) (by exact rfl) (by exact rfl) (by omega)
     | apply s_rem (by first|exact True.intro|rfl) (by exact rfl) (by exact rfl) (by omega)
     | apply s_bool (by first|exact True.intro|rfl) (by exact rfl) (by exact rfl) (by exact rfl)
     | apply s_notT (by first|exact True.intro|rfl) (by exact rfl)
     | apply s_notF (by first|exact True.intro|rfl) (by exact rfl)
     | apply s_not (by first|exact True.intro|rfl) (by exact rfl)
     | apply s_pickTL (by first|exact True.intro|rfl) (by exact rfl) (by exact rfl)
     | apply s_pickFL (by first|exact True.intro|rfl) (by exact rfl) (by exact rfl)
     | apply s_pickTS (by first|exact True.intro|rfl) (by exact rfl) (by exact rfl)
     | apply s_pickFS (by first|exact True.intro|rfl) (by exact rfl) (by exact rfl)
     | apply s_pickTA (by first|exact True.intro|rfl) (by exact rfl) (by exact rfl)
     | apply s_pickFA (by first|exact True.intro|rfl) (by exact rfl) (by exact rfl)
     | apply s_pickTO (by first|exact True.intro|rfl) (by exact rfl) (by exact rfl)
     | apply s_pickFO (by first|exact True.intro|rfl) (by exact rfl) (by exact rfl)
     | apply s_pickTP (by first|exact True.intro|rfl) (by exact rfl) (by exact rfl)
     | apply s_pickFP (by first|exact True.intro|rfl) (by exact rfl) (by exact rfl)
     | apply s_pickTE (by first|exact True.intro|rfl) (by exact rfl) (by exact rfl)
     | apply s_pickFE (by first|exact True.intro|rfl) (by exact rfl) (by exact rfl)
     | apply s_pickTT (by first|exact True.intro|rfl) (by exact rfl) (by exact rfl)
     | apply s_pickFT (by first|exact True.intro|rfl) (by exact rfl) (by exact rfl)
     | apply s_pickTF (by first|exact True.intro|rfl) (by exact rfl) (by exact rfl)
     | apply s_pickFF (by first|exact True.intro|rfl) (by exact rfl) (by exact rfl)
     | apply s_pickTX (by first|exact True.intro|rfl) (by exact rfl) (by exact rfl))
   | (first
     | apply s_pickFX (by first|exact True.intro|rfl) (by exact rfl) (by exact rfl)
     | apply s_pickB (by first|exact True.intro|rfl) (by exact rfl) (by exact rfl) (by exact rfl)
     | apply s_conv64 (by first|exact True.intro|rfl) (by exact rfl) (by omega) (by omega)
     | apply s_conv (by first|exact True.intro|rfl) (by exact rfl)
     | apply s_faddr (by first|exact True.intro|rfl) (by exact rfl)
     | apply s_faddrE (by first|exact True.intro|rfl) (by exact rfl)
     | apply s_load1 (by first|exact True.intro|rfl) (by exact rfl) (by exact rfl) (by exact rfl) (by exact rfl)
     | apply s_loadA (by first|exact True.intro|rfl) (by exact rfl) (by exact rfl) (by exact rfl) (by exact rfl)
     | apply s_loadG (by first|exact True.intro|rfl) (by exact rfl) (by exact rfl) (by exact rfl) (by exact rfl)
     | apply s_loadE1 (by first|exact True.intro|rfl) (by exact rfl) (by first|assumption|rfl) (by exact rfl)
     | apply s_loadEA (by first|exact True.intro|rfl) (by exact rfl) (by first|assumption|rfl) (by exact rfl)
     | apply s_loadEG (by first|exact True.intro|rfl) (by exact rfl) (by first|assumption|rfl) (by exact rfl)
     | apply s_extract (by first|exact True.intro|rfl) (by exact rfl) (by exact rfl)
     | apply s_field1 (by first|exact True.intro|rfl) (by exact rfl) (by exact rfl)
     | apply s_fieldG (by first|exact True.intro|rfl) (by exact rfl) (by exact rfl)
     | apply s_len (by first|exact True.intro|rfl) (by exact rfl) (by first|assumption|rfl)
     | apply s_lenN (by first|exact True.intro|rfl) (by exact rfl)
     | apply s_lenO (by first|exact True.intro|rfl) (by exact rfl) (by exact rfl) (by exact rfl) (by first|assumption|rfl)
     | apply s_slen (by first|exact True.intro|rfl) (by exact rfl)
     | apply s_iaddr (by first|exact True.intro|rfl) (by exact rfl) (by exact rfl) (by omega) (by first|omega|assumption)
     | apply s_iaddrO (by first|exact True.intro|rfl) (by exact rfl) (by exact rfl) (by exact rfl) (by exact rfl) (by exact rfl) (by omega) (by first|omega|(dsimp only; omega))
     | apply s_nilckP (by first|exact True.intro|rfl) (by exact rfl)
     | apply s_nilckE (by first|exact True.intro|rfl) (by exact rfl)
     | apply s_nilckF (by first|exact True.intro|rfl) (by exact rfl)
     | apply s_mkfn (by first|exact True.intro|rfl)
     | apply s_alloc (by first|exact True.intro|rfl)
     | apply s_box (by first|exact True.intro|rfl) (by exact rfl) (by exact rfl) (by exact rfl)
     | apply s_build (by first|exact True.intro|rfl) (by exact rfl)
     | apply s_storeB (by first|exact True.intro|rfl) (by exact rfl) (by exact rfl) (by exact rfl) (by exact rfl) (by exact rfl) (by exact rfl) (by exact rfl) (by exact rfl) (by exact rfl) (by exact rfl)
     | apply s_callA (by first|exact True.intro|rfl) (by exact rfl) (by exact rfl) (by assumption)
     | apply s_callS (by first|exact True.intro|rfl) (by exact rfl) (by exact rfl) (by assumption) (by (repeat (first|exact SubL.nil|refine SubL.cons (by first|exact Sub.refl _|exact Sub.nil _|exact Sub.any _|(refine Sub.agg ?_; repeat (first|exact SubL.nil|refine SubL.cons (by first|exact Sub.refl _|exact Sub.nil _) ?_))) ?_)))
     | apply s_callB (by first|exact True.intro|rfl) (by exact rfl) (by exact rfl) (by assumption) (by exact rfl)
     | apply s_callR (by first|exact True.intro|rfl) (by exact rfl) (by exact rfl) (by assumption)
     | apply s_callF (by first|exact True.intro|rfl) (by exact rfl) (by exact rfl) (by exact rfl) (by exact rfl) (by assumption) (by (repeat (first|exact SubL.nil|refine SubL.cons (by first|exact Sub.refl _|exact Sub.nil _|exact Sub.any _|(refine Sub.agg ?_; repeat (first|exact SubL.nil|refine SubL.cons (by first|exact Sub.refl _|exact Sub.nil _) ?_))) ?_)))
     | apply s_min (by first|exact True.intro|rfl) (by exact rfl) (by exact rfl) (by first|exact .inl ⟨by omega,Eq.refl _⟩|exact .inr ⟨by omega,Eq.refl _⟩)
     | apply s_max (by first|exact True.intro|rfl) (by exact rfl) (by exact rfl) (by first|exact .inl ⟨by omega,Eq.refl _⟩|exact .inr ⟨by omega,Eq.refl _⟩)
     | apply s_cap (by first|exact True.intro|rfl) (by exact rfl)
     | apply s_mx3 (by first|exact True.intro|rfl) (by exact rfl) (by exact rfl) (by exact rfl) (by first|assumption|exact Eq.refl _)
     | apply s_storeR [] (by first|exact True.intro|rfl) (by exact rfl) (by exact rfl) (by exact rfl) (by exact rfl) (by first|assumption|rfl) (by exact rfl) (by exact rfl) (by exact rfl) (by exact rfl) (by exact rfl) (by exact rfl)
     | apply s_rowlit [] (by first|exact True.intro|rfl) (by exact rfl) (by exact rfl) (by exact rfl) (by exact rfl)
     | apply s_append [] (by first|exact True.intro|rfl) (by exact rfl) (by exact rfl) (by exact rfl) (by exact rfl) (by exact rfl) (by exact rfl) (by exact rfl) (by exact rfl) (by first|omega|assumption|(dsimp only; omega)|(simp only [List.length_append,List.length_cons,List.length_nil,List.length_map,List.length_replicate,List.length_take,List.length_drop,chunk,intsA]; omega))
     | apply s_appendN [] (by first|exact True.intro|rfl) (by exact rfl) (by exact rfl) (by exact rfl) (by first|omega|assumption|(dsimp only; omega)|(simp only [List.length_append,List.length_cons,List.length_nil,List.length_map,List.length_replicate,List.length_take,List.length_drop,chunk,intsA]; omega))
     | apply s_storeRR (by first|exact True.intro|rfl) (by exact rfl) (by exact rfl) (by exact rfl) (by exact rfl) (by first|assumption|rfl) (by exact rfl) (by exact rfl) (by exact rfl) (by exact rfl) (by exact rfl) (by exact rfl)
     | apply s_rowlitR (by first|exact True.intro|rfl) (by exact rfl) (by exact rfl) (by exact rfl) (by exact rfl)
     | apply s_appendR (by first|exact True.intro|rfl) (by exact rfl) (by exact rfl) (by exact rfl) (by exact rfl) (by exact rfl) (by exact rfl) (by exact rfl) (by exact rfl) (by first|omega|assumption|(dsimp only; omega)|(simp only [List.length_append,List.length_cons,List.length_nil,List.length_map,List.length_replicate,List.length_take,List.length_drop,chunk,intsA]; omega))
     | apply s_appendNR (by first|exact True.intro|rfl) (by exact rfl) (by exact rfl) (by exact rfl) (by first|omega|assumption|(dsimp only; omega)|(simp only [List.length_append,List.length_cons,List.length_nil,List.length_map,List.length_replicate,List.length_take,List.length_drop,chunk,intsA]; omega))
     | apply s_sliceC (by first|exact True.intro|rfl) (by exact rfl) (by first|exact Eq.refl _|exact ⟨_,Eq.refl _⟩) (by first|exact Eq.refl _|exact ⟨_,Eq.refl _⟩) (by assumption)
     | apply s_iaddrO (by first|exact True.intro|rfl) (by exact rfl) (by exact rfl) (by exact rfl) (by exact rfl) (by exact rfl) (by omega) (by simp only [List.length_set,List.length_append,List.length_cons,List.length_nil,List.length_replicate]; omega)
     | apply s_load1 (by first|exact True.intro|rfl) (by exact rfl) (by exact rfl) (by assumption) (by exact rfl)
     | apply s_loadA (by first|exact True.intro|rfl) (by exact rfl) (by exact rfl) (by assumption) (by exact rfl)
     | apply s_loadG (by first|exact True.intro|rfl) (by exact rfl) (by exact rfl) (by assumption) (by exact rfl)
     | apply s_eqvL (by first|exact True.intro|rfl) (by exact rfl) (by exact rfl) (by assumption) (by first|assumption|omega)
     | apply s_neg64 (by first|exact True.intro|rfl) (by exact rfl) (by omega) (by omega)
     | apply s_neg (by first|exact True.intro|rfl) (by exact rfl)
     | apply s_iaddrA (by first|exact True.intro|rfl) (by exact rfl) (by exact rfl) (by omega) (by omega)
     | apply s_iaddrAE (by first|exact True.intro|rfl) (by exact rfl) (by exact rfl) (by omega) (by omega)
     | apply s_load1 (by first|exact True.intro|rfl) (by exact rfl) (by exact rfl) (by exact rfl) (by assumption)
     | apply s_loadE1 (by first|exact True.intro|rfl) (by exact rfl) (by first|assumption|rfl) (by assumption)
     | apply s_storeB (by first|exact True.intro|rfl) (by exact rfl) (by exact rfl) (by exact rfl) (by exact rfl) (by exact rfl) (by exact rfl) (by exact rfl) (by exact rfl) (by assumption) (by assumption)
     | apply s_iaddr (by first|exact True.intro|rfl) (by exact rfl) (by exact rfl) (by omega) (by simp only [List.length_map]; omega)
     | apply s_eqvP0 (by first|exact True.intro|rfl) (by exact rfl) (by exact rfl) (by assumption)
     | apply s_eqvP1 (by first|exact True.intro|rfl) (by exact rfl) (by exact rfl) (by assumption)
     | apply s_eqvPE (by first|exact True.intro|rfl) (by exact rfl) (by exact rfl) (by assumption)
     | apply s_make (by first|exact True.intro|rfl) (by exact rfl) (by exact rfl) (by omega) (by omega) (by omega)))); exact Runs.refl _ _ _)) (hi:(bif d then indepOK acc.reverse free else true)=true:=by rfl):AW P C (.ops d l free) Q st:=aw_reg (rg_runs hR (rg_nil ⟨hi,hQ⟩))
theorem walk3 {P:Program} {C:Ctx} {Q:Exit→St→Prop} {st:St} {c:ACode} {G:Prop} (hG:G) (h:Left G→AW P C c Q st:=by
 (intro hG; repeat (first|refine aw_seq ?_|refine aw_block ?_|refine aw_skip ?_|refine aw_exit ?_|refine aw_ret ?_|refine aw_cond_t rfl ?_|refine aw_cond_f rfl ?_|refine aw_condF rfl ?_|refine aw_condT rfl ?_|refine aw_R3 ?_)
  exact hG.out)):AW P C c Q st:=h ⟨hG⟩
theorem q_eqvO {P:Program} {st:St} {d:Option Nat} {g:Option (Nat × Bool)} {t e:TypeId} {x y:Operand} {id:Nat} {ob:OB} (hu:P.underlying t=some (.slice e)) (hg:gOK st g) (hx:ev st x=.own id) (ho:hl st.h id=some ob) (hrow:ob.row=true) (hn:0<ob.es.length) (hy:ev st y=.lit (.slice none 0 0)):Step P st ⟨⟨d,g,.eqv t false x y⟩,.lit (.bool false),[id],[],0⟩ :=
 step_val [id] hg fun o C E ac w sx hlow R hr hh=>by
  have h1:=hr x (by simp [AOp.opds])
  rw [hx] at h1
  obtain ⟨hl1,_,hv⟩:=h1
  have h2:=lit_eval (hr y (by simp [AOp.opds])) hy
  obtain ⟨k1,k2⟩:=R.heap.ob id ob hl1 (by rw [hh id (by simp)]; exact ho)
  rw [hrow] at k2
  obtain ⟨vs,a,cap,j1,j2,_⟩:=k2
  have ha:a.isNone=false:=by
   rcases j2.2 with ⟨q1,q2⟩|⟨g',c',cur,q1,_⟩
   ·omega
   ·rw [j1] at q1; simp only [Value.slice.injEq] at q1; rw [q1.1]; rfl
  obtain ⟨dst,o,ty,pos,after,guard⟩:=o
  obtain ⟨t2,rfl⟩:=low_spec hlow
  refine ⟨.bool a.isNone,?_,by rw [ha]; rfl⟩
  have hq:(eqGuard .eql t x y (.slice a ob.es.length cap) (.slice none 0 0)).run P w=.ok () w:=rfl
  simp only [execOp,hv.trans j1,h2,Sem.run_bind,cond_false,hq,Result.andThen_ok,eqvS_run hu,Sem.run_pure]
section
variable {P:Program} {tt:List (Nat × AV)} {hh:Hp} {nn dd:Nat} {g:Option (Nat × Bool)} {l:List AInst} {acc:List SD} {K:List SD→St→Prop}
theorem r_eqvO {t e:TypeId} {x y:Operand} {id:Nat} {ob:OB} (hu:P.underlying t=some (.slice e)) (hn:0<ob.es.length) (h:RG P (⟨⟨some dd,g,.eqv t false x y⟩,.lit (.bool false),[id],[],0⟩::acc) l ⟨(dd,.lit (.bool false))::tt,hh,nn⟩ K)
 (hg:gOK ⟨tt,hh,nn⟩ g:=by first|exact True.intro|rfl) (hx:ev ⟨tt,hh,nn⟩ x=.own id:=by rfl) (ho:hl hh id=some ob:=by rfl) (hrow:ob.row=true:=by rfl) (hy:ev ⟨tt,hh,nn⟩ y=.lit (.slice none 0 0):=by rfl) :
 RG P acc (⟨some dd,g,.eqv t false x y⟩::l) ⟨tt,hh,nn⟩ K:=RG.step (q_eqvO hu hg hx ho hrow hn hy) h
end
theorem aw_valO {P:Program} {C:Ctx} {Q:Exit→St→Prop} {st:St} {c:ACode} (n id:Nat) {o:OB} (hn:st.get n=.own id) (ho:hl st.h id=some o) (hrow:o.row=true)
 (h:∀ a cap,AW P C c Q ⟨(n,.lit (.slice a o.es.length cap))::st.t,st.h,st.nx⟩):AW P C c Q st:=by
 intro code hc E ac w R
 have hv:=R.tm n
 rw [hn] at hv
 obtain ⟨hl1,_,hv⟩:=hv
 obtain ⟨k1,k2⟩:=R.heap.ob id o hl1 ho
 rw [hrow] at k2
 obtain ⟨vs,a,cap,j1,_⟩:=k2
 refine h a cap code hc E ac w ⟨R.defers,R.size,fun k => ?_,R.heap,R.nx,R.own,R.ext,R.imx,R.imn,R.frm⟩
 by_cases hk:k=n
 ·subst hk
  have e1:St.get ⟨(k,.lit (.slice a o.es.length cap))::st.t,st.h,st.nx⟩ k=.lit (.slice a o.es.length cap):=getT_same st.t k _
  rw [e1]
  exact hv.trans j1
 ·have e1:St.get ⟨(n,.lit (.slice a o.es.length cap))::st.t,st.h,st.nx⟩ k=st.get k:=getT_ne st.t (some n) _ k (by simpa using fun h=>hk h.symm)
  rw [e1]
  exact R.tm k
theorem aw_postW {P:Program} {C:Ctx} {Q:Exit→St→Prop} {st:St} {c:ACode} (h:AW P C c (fun e s=>∃ s',Weak C s s'∧Q e s') st):AW P C c Q st:=by
 intro code hc E ac w R
 refine wp_mono (h code hc E ac w R) ?_
 rintro e a' w' ⟨E',s,⟨s',hw,hq⟩,R'⟩
 obtain ⟨E2,R2⟩:=hw E' a' w' R'
 exact ⟨E2,s',hq,R2⟩
theorem weak_any {C:Ctx} {s:St} (n:Nat):Weak C s ⟨(n,.any)::s.t,s.h,s.nx⟩:=weak_sub (fun k E w v h=>by
 by_cases hk:k=n
 ·subst hk
  have e1:St.get ⟨(k,.any)::s.t,s.h,s.nx⟩ k=.any:=getT_same s.t k _
  rw [e1]; trivial
 ·have e1:St.get ⟨(n,.any)::s.t,s.h,s.nx⟩ k=s.get k:=getT_ne s.t (some n) _ k (by simpa using fun h=>hk h.symm)
  rw [e1]; exact h) rfl (Nat.le_refl _)
theorem RdIE.one {im:Nat→Prop} {w:World} {sz:Nat} {e e':List AV} (hs:∀ vs,RdIL im w e vs→RdIL im w e' vs) (vs:List Value) (h:RdIE im w sz [e] vs):RdIE im w sz [e'] vs:=by
 obtain ⟨x,rest,h1,h2,h3,h4⟩:=h
 exact ⟨x,rest,h1,h2,hs _ h3,h4⟩
section
variable {E:Env} {w:World}
theorem RdM.app:∀ {l:List (List AV)} {es:List MapEntry} {e:List AV} {m:MapEntry},RdM E w l es→RdIL E.im w e [m.key,m.val]→RdM E w (l++[e]) (es++[m])
 | [],es,e,m,h,hm=>by obtain rfl:es=[]:=h; exact ⟨m,[],rfl,hm,rfl⟩
 | _::l,es,e,m,h,hm=>by
   obtain ⟨m0,rest,rfl,h1,h2⟩:=h
   exact ⟨m0,rest++[m],rfl,h1,RdM.app h2 hm⟩
theorem RdM.len:∀ {l:List (List AV)} {es:List MapEntry},RdM E w l es→es.length=l.length
 | [],es,h=>by obtain rfl:es=[]:=h; rfl
 | _::l,es,h=>by
   obtain ⟨m0,rest,rfl,h1,h2⟩:=h
   simp [RdM.len h2]
end
section
variable {P:Program} {st:St} {d:Option Nat} {g:Option (Nat × Bool)}
end
section
variable {P:Program} {tt:List (Nat × AV)} {hh:Hp} {nn dd:Nat} {g:Option (Nat × Bool)} {l:List AInst} {acc acc':List SD} {l':List AInst} {st':St}
end
section
variable {P:Program} {st:St} {d:Option Nat} {g:Option (Nat × Bool)}
theorem q_cpl {x:Operand} {k:IntKind} {n:Int} (hg:gOK st g) (hx:ev st x=.lit (.int k n)) (hk:k.signed=false):Step P st ⟨⟨d,g,.un .xor x⟩,.lit (.int k (k.wrap (BitVec.ofInt k.bits k.max ^^^ BitVec.ofInt k.bits n).toNat)),[],[],0⟩ :=
 step_val [] hg fun o C E ac w sx hlow R hr hh=>by
  have h1:=lit_eval (hr x (by simp [AOp.opds])) hx
  obtain ⟨dst,o,ty,pos,after,guard⟩:=o
  obtain ⟨t,rfl⟩:=low_spec hlow
  exact ⟨_,by simp [execOp,h1,Op.unary,Op.intBits,hk],rfl⟩
theorem q_sidx {x y:Operand} {s:ByteArray} {k:IntKind} {z:Int} {b:UInt8} (hg:gOK st g) (hx:ev st x=.lit (.string s)) (hy:ev st y=.lit (.int k z)) (h0:0≤z) (hb:s[z.toNat]? = some b):Step P st ⟨⟨d,g,.sidx x y⟩,.lit (.int .u8 b.toNat),[],[],0⟩ :=
 step_val [] hg fun o C E ac w sx hlow R hr hh=>by
  have h1:=lit_eval (hr x (by simp [AOp.opds])) hx
  have h2:=lit_eval (hr y (by simp [AOp.opds])) hy
  obtain ⟨dst,o,ty,pos,after,guard⟩:=o
  obtain ⟨t,rfl,hu⟩:=low_spec hlow
  refine ⟨.int .u8 b.toNat,?_,rfl⟩
  have hrun:(Instr.index t (.string s) (.int k z)).run P w=.ok (.int .u8 b.toNat) w:=by
   simp only [Instr.index,asIntOf,Sem.run_bind,Sem.run_pure,Result.andThen_ok,run_underlying hu w,if_pos h0,hb]
  simp only [execOp,h1,h2,Sem.run_bind,hrun,Result.andThen_ok,Sem.run_pure]
theorem q_sliceW {sz:Nat} {x:Operand} {lo hi:Option Operand} {id:Nat} {ob:OB} {l h:Nat} (hg:gOK st g) (hx:ev st x=.own id) (ho:hl st.h id=some ob) (hrow:ob.row=true) (hsz:ob.sz=sz) (hlo:bndA st lo 0 l) (hhi:bndA st hi ob.es.length h) (h1:l≤h) (h2:h≤ob.es.length) (h3:l<ob.es.length) :
 Step P st ⟨⟨d,g,.slice sz x lo hi none⟩,.osl id l (h - l),[id],[],0⟩ :=
  step_val [id] hg fun o C E ac w sx hlow R hr hh=>by
 have hv:=hr x (by simp [AOp.opds])
 rw [hx] at hv
 obtain ⟨hl1,_,hv⟩:=hv
 obtain ⟨dst,o,ty,pos,after,guard⟩:=o
 obtain ⟨t,e,gg,rfl,het,hs⟩:=low_spec hlow
 obtain ⟨k1,k2⟩:=R.heap.ob id ob hl1 (by rw [hh id (by simp)]; exact ho)
 rw [hrow] at k2
 obtain ⟨vs,a,cap,j1,j2,_⟩:=k2
 rcases j2.2 with ⟨_,h00⟩|⟨b,c,cur,hvv,_,_,hcc,_⟩
 ·omega
 ·have hvv':ac.eval x=.slice (some ⟨b,0,none⟩) ob.es.length c:=hv.trans hvv
  have hbl:(match lo.map ac.eval with|none=>l=0|some v=>∃ k,v=.int k l):=by
   cases lo with
   | none=>simp only [bndA] at hlo; simp only [Option.map_none]; omega
   | some o=>obtain ⟨k,hk⟩:=hlo; exact ⟨k,lit_eval (hr o (by simp [AOp.opds,oL])) hk⟩
  have hbh:(match hi.map ac.eval with|none=>h=ob.es.length|some v=>∃ k,v=.int k h):=by
   cases hi with
   | none=>simp only [bndA] at hhi; simp only [Option.map_none]; omega
   | some o=>obtain ⟨k,hk⟩:=hhi; exact ⟨k,lit_eval (hr o (by simp [AOp.opds,oL])) hk⟩
  have hrun:=sliceAt_run (P:=P) (w:=w) (a:=some ⟨b,0,none⟩) (len:=ob.es.length) (cap:=c) (lo:=lo.map ac.eval) (hi:=hi.map ac.eval) (mx:=none) (l:=l) (h:=h) (m:=c) (elemsOf_spec het) hs rfl hbh hbl h1 (by omega) (by omega) (by simp)
  rw [if_neg (by omega)] at hrun
  refine ⟨.slice (some ⟨b,l * sz,none⟩) (h - l) (c - l),?_,hl1,b,ob.es.length,c,hvv,by omega,by rw [k1,hsz]⟩
  simp only [execOp,hvv',Option.map_none,Sem.run_bind,hrun,Result.andThen_ok,Sem.run_pure,Option.map_some,addr_add,Nat.zero_add]
theorem q_iaddrW {x y:Operand} {sz id off n:Nat} {ob:OB} {k:IntKind} {z:Int} (hg:gOK st g) (hx:ev st x=.osl id off n) (ho:hl st.h id=some ob) (hsz:ob.sz=sz) (hy:ev st y=.lit (.int k z)) (h0:0≤z) (h1:z<n):Step P st ⟨⟨d,g,.iaddr sz x y⟩,.optr id (off+z.toNat) 0,[id],[],0⟩ :=
 step_val [id] hg fun o C E ac w sx hlow R hr hh=>by
  have hv:=hr x (by simp [AOp.opds])
  have hz:=lit_eval (hr y (by simp [AOp.opds])) hy
  rw [hx] at hv
  obtain ⟨hl1,b,len,cap,hval,hle,hv⟩:=hv
  obtain ⟨dst,o,ty,pos,after,guard⟩:=o
  obtain ⟨t,e,gg,rfl,hu,hs,hpos⟩:=low_spec hlow
  obtain ⟨k1,_⟩:=R.heap.ob id ob hl1 (by rw [hh id (by simp)]; exact ho)
  refine ⟨.pointer (some ⟨b,(off+z.toNat) * E.sz id+0,none⟩),?_,hl1,b,by rw [hval]; rfl,rfl⟩
  simp only [execOp,hv,hz,Sem.run_bind,indexAt_run hu hs h0 h1,addr_add,Result.andThen_ok,Sem.run_pure,Nat.add_zero,k1,hsz,Nat.add_mul]
end
def absCmp (op:BinOp) (a b:Int):Option Bool :=
 match op with
 | .eql=>some (a == b)
 | .neq=>some (a != b)
 | .lss=>some (decide (a<b))
 | .leq=>some (decide (a≤b))
 | .gtr=>some (decide (a > b))
 | .geq=>some (decide (a ≥ b))
 | _=>none
theorem absCmp_int {op:BinOp} {k:IntKind} {a b:Int} {v:Bool} (h:absCmp op a b=some v):absInt op k a b=some (.bool v):=by
 cases op<;>simp only [absCmp,Option.some.injEq] at h<;>first
  | (cases h; done)
  | (subst h; rfl)
section
variable {P:Program} {tt:List (Nat × AV)} {hh:Hp} {nn dd:Nat} {g:Option (Nat × Bool)} {l:List AInst} {acc acc':List SD} {l':List AInst} {st':St}
theorem s_cmpI {op:BinOp} {x y:Operand} {k:IntKind} {a b:Int} {v:Bool} (hg:gOK ⟨tt,hh,nn⟩ g) (hx:ev ⟨tt,hh,nn⟩ x=.lit (.int k a)) (hy:ev ⟨tt,hh,nn⟩ y=.lit (.int k b)) (hv:absCmp op a b=some v) (h:Runs P (⟨⟨some dd,g,.bin op x y⟩,.lit (.bool v),[],[],0⟩::acc) l ⟨(dd,.lit (.bool v))::tt,hh,nn⟩ acc' l' st'):Runs P acc (⟨some dd,g,.bin op x y⟩::l) ⟨tt,hh,nn⟩ acc' l' st':=Runs.step' (q_int hg hx hy (absCmp_int hv)) h
theorem s_movW {x:Operand} {id off n:Nat} (hg:gOK ⟨tt,hh,nn⟩ g) (hx:ev ⟨tt,hh,nn⟩ x=.osl id off n) (h:Runs P (⟨⟨some dd,g,.mov x⟩,.osl id off n,[],[],0⟩::acc) l ⟨(dd,.osl id off n)::tt,hh,nn⟩ acc' l' st'):Runs P acc (⟨some dd,g,.mov x⟩::l) ⟨tt,hh,nn⟩ acc' l' st':=Runs.step' (hx ▸ q_mov hg) h
theorem s_bitA {op:BinOp} {x y:Operand} {k:IntKind} {a b v:Int} (hg:gOK ⟨tt,hh,nn⟩ g) (hx:ev ⟨tt,hh,nn⟩ x=.lit (.int k a)) (hy:ev ⟨tt,hh,nn⟩ y=.lit (.int k b)) (hv:absInt op k a b=some (.int k v)) (h:Runs P (⟨⟨some dd,g,.bin op x y⟩,.lit (.int k v),[],[],0⟩::acc) l ⟨(dd,.lit (.int k v))::tt,hh,nn⟩ acc' l' st'):Runs P acc (⟨some dd,g,.bin op x y⟩::l) ⟨tt,hh,nn⟩ acc' l' st':=Runs.step' (q_int hg hx hy hv) h
theorem s_convA {k k0:IntKind} {x:Operand} {n v:Int} (hg:gOK ⟨tt,hh,nn⟩ g) (hx:ev ⟨tt,hh,nn⟩ x=.lit (.int k0 n)) (hv:k.wrap n=v) (h:Runs P (⟨⟨some dd,g,.conv k x⟩,.lit (.int k v),[],[],0⟩::acc) l ⟨(dd,.lit (.int k v))::tt,hh,nn⟩ acc' l' st'):Runs P acc (⟨some dd,g,.conv k x⟩::l) ⟨tt,hh,nn⟩ acc' l' st':=by subst hv; exact Runs.step' (q_conv hg hx) h
theorem s_shrP {x y:Operand} {k yk:IntKind} {a b p:Int} (hg:gOK ⟨tt,hh,nn⟩ g) (hx:ev ⟨tt,hh,nn⟩ x=.lit (.int k a)) (hy:ev ⟨tt,hh,nn⟩ y=.lit (.int yk b)) (hp:(2:Int) ^ (min b.toNat k.bits)=p) (h0:0≤b) (h:Runs P (⟨⟨some dd,g,.bin .shr x y⟩,.lit (.int k (a / p)),[],[],0⟩::acc) l ⟨(dd,.lit (.int k (a / p)))::tt,hh,nn⟩ acc' l' st'):Runs P acc (⟨some dd,g,.bin .shr x y⟩::l) ⟨tt,hh,nn⟩ acc' l' st':=by
 subst hp
 refine Runs.step' ((q_shr hg hx hy h0).cast ?_) h
 rw [Int.fdiv_eq_ediv_of_nonneg _ (Int.le_of_lt (Int.pow_pos (by omega)))]
theorem s_shlP {x y:Operand} {k yk:IntKind} {a b p v:Int} (hg:gOK ⟨tt,hh,nn⟩ g) (hx:ev ⟨tt,hh,nn⟩ x=.lit (.int k a)) (hy:ev ⟨tt,hh,nn⟩ y=.lit (.int yk b)) (hp:(2:Int) ^ (min b.toNat k.bits)=p) (hv:k.wrap (a * p)=v) (h0:0≤b) (h:Runs P (⟨⟨some dd,g,.bin .shl x y⟩,.lit (.int k v),[],[],0⟩::acc) l ⟨(dd,.lit (.int k v))::tt,hh,nn⟩ acc' l' st'):Runs P acc (⟨some dd,g,.bin .shl x y⟩::l) ⟨tt,hh,nn⟩ acc' l' st':=by
 subst hp hv
 exact Runs.step' (q_shl hg hx hy h0) h
theorem s_cplA {x:Operand} {k:IntKind} {n v:Int} (hg:gOK ⟨tt,hh,nn⟩ g) (hx:ev ⟨tt,hh,nn⟩ x=.lit (.int k n)) (hk:k.signed=false) (hv:k.wrap (BitVec.ofInt k.bits k.max ^^^ BitVec.ofInt k.bits n).toNat=v) (h:Runs P (⟨⟨some dd,g,.un .xor x⟩,.lit (.int k v),[],[],0⟩::acc) l ⟨(dd,.lit (.int k v))::tt,hh,nn⟩ acc' l' st'):Runs P acc (⟨some dd,g,.un .xor x⟩::l) ⟨tt,hh,nn⟩ acc' l' st':=by
 subst hv; exact Runs.step' (q_cpl hg hx hk) h
theorem s_sidxA {x y:Operand} {s:ByteArray} {k:IntKind} {z:Int} {b:UInt8} (hg:gOK ⟨tt,hh,nn⟩ g) (hx:ev ⟨tt,hh,nn⟩ x=.lit (.string s)) (hy:ev ⟨tt,hh,nn⟩ y=.lit (.int k z)) (h0:0≤z) (hb:s[z.toNat]? = some b) (h:Runs P (⟨⟨some dd,g,.sidx x y⟩,.lit (.int .u8 b.toNat),[],[],0⟩::acc) l ⟨(dd,.lit (.int .u8 b.toNat))::tt,hh,nn⟩ acc' l' st'):Runs P acc (⟨some dd,g,.sidx x y⟩::l) ⟨tt,hh,nn⟩ acc' l' st':=Runs.step' (q_sidx hg hx hy h0 hb) h
theorem s_iaddrW {x y:Operand} {sz id off n:Nat} {ob:OB} {k:IntKind} {z:Int} (hg:gOK ⟨tt,hh,nn⟩ g) (hx:ev ⟨tt,hh,nn⟩ x=.osl id off n) (ho:hl hh id=some ob) (hsz:ob.sz=sz) (hy:ev ⟨tt,hh,nn⟩ y=.lit (.int k z)) (h0:0≤z) (h1:z<n) (h:Runs P (⟨⟨some dd,g,.iaddr sz x y⟩,.optr id (off+z.toNat) 0,[id],[],0⟩::acc) l ⟨(dd,.optr id (off+z.toNat) 0)::tt,hh,nn⟩ acc' l' st'):Runs P acc (⟨some dd,g,.iaddr sz x y⟩::l) ⟨tt,hh,nn⟩ acc' l' st':=Runs.step' (q_iaddrW hg hx ho hsz hy h0 h1) h
end
section
variable {P:Program} {tt:List (Nat × AV)} {hh:Hp} {nn dd:Nat} {g:Option (Nat × Bool)} {l:List AInst} {acc:List SD} {K:List SD→St→Prop}
theorem r_sliceW {sz:Nat} {x:Operand} {lo hi:Option Operand} {id:Nat} {ob:OB} (a b:Nat) (h:RG P (⟨⟨some dd,g,.slice sz x lo hi none⟩,.osl id a (b - a),[id],[],0⟩::acc) l ⟨(dd,.osl id a (b - a))::tt,hh,nn⟩ K) (h1:a≤b:=by omega) (h2:b≤ob.es.length:=by first|omega|(dsimp only; omega)) (h3:a<ob.es.length:=by first|omega|(dsimp only; omega)) (hg:gOK ⟨tt,hh,nn⟩ g:=by first|exact True.intro|rfl) (hx:ev ⟨tt,hh,nn⟩ x=.own id:=by rfl) (ho:hl hh id=some ob:=by rfl) (hrow:ob.row=true:=by rfl) (hsz:ob.sz=sz:=by rfl)
 (hlo:bndA ⟨tt,hh,nn⟩ lo 0 a:=by first|exact rfl|exact ⟨_,rfl⟩) (hhi:bndA ⟨tt,hh,nn⟩ hi ob.es.length b:=by first|exact rfl|exact ⟨_,rfl⟩):RG P acc (⟨some dd,g,.slice sz x lo hi none⟩::l) ⟨tt,hh,nn⟩ K:=RG.step (q_sliceW hg hx ho hrow hsz hlo hhi h1 h2 h3) h
end
theorem rrun5 {P:Program} {acc:List SD} {l:List AInst} {st:St} {acc':List SD} {l':List AInst} {st':St} {K:List SD→St→Prop} (h:RG P acc' l' st' K) (hR:Runs P acc l st acc' l' st':=by
 ((repeat (first
   | (first
     | apply s_movL (by first|exact True.intro|rfl) (by exact rfl)
     | apply s_movW (by first|exact True.intro|rfl) (by exact rfl)
     | apply s_movM (by first|exact True.intro|rfl) (by exact rfl)
     | apply s_movS (by first|exact True.intro|rfl) (by exact rfl)
     | apply s_movA (by first|exact True.intro|rfl) (by exact rfl)
     | apply s_movO (by first|exact True.intro|rfl) (by exact rfl)
     | apply s_movP (by first|exact True.intro|rfl) (by exact rfl)
     | apply s_movE (by first|exact True.intro|rfl) (by exact rfl)
     | apply s_movT (by first|exact True.intro|rfl) (by exact rfl)
     | apply s_movF (by first|exact True.intro|rfl) (by exact rfl)
     | apply s_movX (by first|exact True.intro|rfl) (by exact rfl)
     | apply s_noA (by exact rfl)
     | apply s_noB (by exact rfl)
     | apply s_noC (by exact rfl)
     | apply s_no (by exact rfl)
     | apply s_noN (by exact rfl)
     | apply s_bitA (by first|exact True.intro|rfl) (by exact rfl) (by exact rfl) (by assumption)
     | apply s_add64 (by first|exact True.intro|rfl) (by exact rfl) (by exact rfl) (by omega) (by omega)
     | apply s_sub64 (by first|exact True.intro|rfl) (by exact rfl) (by exact rfl) (by omega) (by omega)
     | apply s_ltT (by first|exact True.intro|rfl) (by exact rfl) (by exact rfl) (by omega)
     | apply s_ltF (by first|exact True.intro|rfl) (by exact rfl) (by exact rfl) (by omega)
     | apply s_leT (by first|exact True.intro|rfl) (by exact rfl) (by exact rfl) (by omega)
     | apply s_leF (by first|exact True.intro|rfl) (by exact rfl) (by exact rfl) (by omega)
     | apply s_gtT (by first|exact True.intro|rfl) (by exact rfl) (by exact rfl) (by omega)
     | apply s_gtF (by first|exact True.intro|rfl) (by exact rfl) (by exact rfl) (by omega)
     | apply s_geT (by first|exact True.intro|rfl) (by exact rfl) (by exact rfl) (by omega)
     | apply s_geF (by first|exact True.intro|rfl) (by exact rfl) (by exact rfl) (by omega)
     | apply s_eqT (by first|exact True.intro|rfl) (by exact rfl) (by exact rfl) (by omega)
     | apply s_eqF (by first|exact True.intro|rfl) (by exact rfl) (by exact rfl) (by omega)
     | apply s_neT (by first|exact True.intro|rfl) (by exact rfl) (by exact rfl) (by omega)
     | apply s_neF (by first|exact True.intro|rfl) (by exact rfl) (by exact rfl) (by omega)
     | apply s_addU64 (by first|exact True.intro|rfl) (by exact rfl) (by exact rfl) (by omega) (by omega)
     | apply s_subU64 (by first|exact True.intro|rfl) (by exact rfl) (by exact rfl) (by omega) (by omega)
     | apply s_mulU64 (by first|exact True.intro|rfl) (by exact rfl) (by exact rfl) (by omega) (by omega)
     | apply s_divU64 (by first|exact True.intro|rfl) (by exact rfl) (by exact rfl) (by omega) (by omega) (by omega)
     | apply s_addU32 (by first|exact True.intro|rfl) (by exact rfl) (by exact rfl) (by omega) (by omega)
     | apply s_divI64 (by first|exact True.intro|rfl) (by exact rfl) (by exact rfl) (by omega) (by omega) (by omega)
     | apply s_remP (by first|exact True.intro|rfl) (by exact rfl) (by exact rfl) (by omega) (by omega)
     | apply s_mul64 (by first|exact True.intro|rfl) (by exact rfl) (by exact rfl) (by first|assumption|omega)
     | apply s_convU64 (by first|exact True.intro|rfl) (by exact rfl) (by omega) (by omega)
     | apply s_convU32 (by first|exact True.intro|rfl) (by exact rfl) (by omega) (by omega)
     | apply s_cmpI (by first|exact True.intro|rfl) (by exact rfl) (by exact rfl) (by exact rfl)
     | apply s_bool (by first|exact True.intro|rfl) (by exact rfl) (by exact rfl) (by exact rfl)
     | apply s_notT (by first|exact True.intro|rfl) (by exact rfl)
     | apply s_notF (by first|exact True.intro|rfl) (by exact rfl)
     | apply s_not (by first|exact True.intro|rfl) (by exact rfl)
     | apply s_pickTL (by first|exact True.intro|rfl) (by exact rfl) (by exact rfl)
     | apply s_pickFL (by first|exact True.intro|rfl) (by exact rfl) (by exact rfl)
     | apply s_pickTS (by first|exact True.intro|rfl) (by exact rfl) (by exact rfl)
     | apply s_pickFS (by first|exact True.intro|rfl) (by exact rfl) (by exact rfl)
     | apply s_pickTA (by first|exact True.intro|rfl) (by exact rfl) (by exact rfl)
     | apply s_pickFA (by first|exact True.intro|rfl) (by exact rfl) (by exact rfl)
     | apply s_pickTO (by first|exact True.intro|rfl) (by exact rfl) (by exact rfl)
     | apply s_pickFO (by first|exact True.intro|rfl) (by exact rfl) (by exact rfl)
     | apply s_pickTP (by first|exact True.intro|rfl) (by exact rfl) (by exact rfl)
     | apply s_pickFP (by first|exact True.intro|rfl) (by exact rfl) (by exact rfl)
     | apply s_pickTE (by first|exact True.intro|rfl) (by exact rfl) (by exact rfl)
     | apply s_pickFE (by first|exact True.intro|rfl) (by exact rfl) (by exact rfl)
     | apply s_pickTT (by first|exact True.intro|rfl) (by exact rfl) (by exact rfl)
     | apply s_pickFT (by first|exact True.intro|rfl) (by exact rfl) (by exact rfl)
     | apply s_pickTF (by first|exact True.intro|rfl) (by exact rfl) (by exact rfl)
     | apply s_pickFF (by first|exact True.intro|rfl) (by exact rfl) (by exact rfl)
     | apply s_pickTX (by first|exact True.intro|rfl) (by exact rfl) (by exact rfl))
   | (first
     | apply s_pickFX (by first|exact True.intro|rfl) (by exact rfl) (by exact rfl)
     | apply s_pickB (by first|exact True.intro|rfl) (by exact rfl) (by exact rfl) (by exact rfl)
     | apply s_conv64 (by first|exact True.intro|rfl) (by exact rfl) (by omega) (by omega)
     | apply s_convA (by first|exact True.intro|rfl) (by exact rfl) (by assumption)
     | apply s_shrP (by first|exact True.intro|rfl) (by exact rfl) (by exact rfl) (by assumption) (by first|omega|decide)
     | apply s_shrP (p:=4294967296) (by first|exact True.intro|rfl) (by exact rfl) (by exact rfl) (by decide) (by first|omega|decide)
     | apply s_shrP (p:=2147483648) (by first|exact True.intro|rfl) (by exact rfl) (by exact rfl) (by decide) (by first|omega|decide)
     | apply s_shrP (p:=65536) (by first|exact True.intro|rfl) (by exact rfl) (by exact rfl) (by decide) (by first|omega|decide)
     | apply s_shrP (p:=256) (by first|exact True.intro|rfl) (by exact rfl) (by exact rfl) (by decide) (by first|omega|decide)
     | apply s_shrP (p:=536870912) (by first|exact True.intro|rfl) (by exact rfl) (by exact rfl) (by decide) (by first|omega|decide)
     | apply s_shrP (p:=2) (by first|exact True.intro|rfl) (by exact rfl) (by exact rfl) (by decide) (by first|omega|decide)
     | apply s_shlP (by first|exact True.intro|rfl) (by exact rfl) (by exact rfl) (by assumption) (by assumption) (by first|omega|decide)
     | apply s_shlP (p:=4294967296) (by first|exact True.intro|rfl) (by exact rfl) (by exact rfl) (by decide) (by first|assumption|exact IntWalk.u64_in _ ⟨by omega,by omega⟩) (by first|omega|decide)
     | apply s_cplA (by first|exact True.intro|rfl) (by exact rfl) (by exact rfl) (by assumption)
     | apply s_sidxA (by first|exact True.intro|rfl) (by exact rfl) (by exact rfl) (by omega) (by assumption)
     | apply s_lenW (by first|exact True.intro|rfl) (by exact rfl)
     | apply s_iaddrW (by first|exact True.intro|rfl) (by exact rfl) (by exact rfl) (by exact rfl) (by exact rfl) (by omega) (by omega)
     | apply s_faddr (by first|exact True.intro|rfl) (by exact rfl)
     | apply s_faddrE (by first|exact True.intro|rfl) (by exact rfl)
     | apply s_load1 (by first|exact True.intro|rfl) (by exact rfl) (by exact rfl) (by exact rfl) (by exact rfl)
     | apply s_loadA (by first|exact True.intro|rfl) (by exact rfl) (by exact rfl) (by exact rfl) (by exact rfl)
     | apply s_loadG (by first|exact True.intro|rfl) (by exact rfl) (by exact rfl) (by exact rfl) (by exact rfl)
     | apply s_loadE1 (by first|exact True.intro|rfl) (by exact rfl) (by first|assumption|rfl) (by exact rfl)
     | apply s_loadEA (by first|exact True.intro|rfl) (by exact rfl) (by first|assumption|rfl) (by exact rfl)
     | apply s_loadEG (by first|exact True.intro|rfl) (by exact rfl) (by first|assumption|rfl) (by exact rfl)
     | apply s_extract (by first|exact True.intro|rfl) (by exact rfl) (by exact rfl)
     | apply s_field1 (by first|exact True.intro|rfl) (by exact rfl) (by exact rfl)
     | apply s_fieldG (by first|exact True.intro|rfl) (by exact rfl) (by exact rfl)
     | apply s_len (by first|exact True.intro|rfl) (by exact rfl) (by first|assumption|rfl)
     | apply s_lenN (by first|exact True.intro|rfl) (by exact rfl)
     | apply s_lenO (by first|exact True.intro|rfl) (by exact rfl) (by exact rfl) (by exact rfl) (by first|assumption|rfl)
     | apply s_slen (by first|exact True.intro|rfl) (by exact rfl)
     | apply s_iaddr (by first|exact True.intro|rfl) (by exact rfl) (by exact rfl) (by omega) (by first|omega|assumption)
     | apply s_iaddrO (by first|exact True.intro|rfl) (by exact rfl) (by exact rfl) (by exact rfl) (by exact rfl) (by exact rfl) (by omega) (by first|omega|(dsimp only; omega))
     | apply s_nilckP (by first|exact True.intro|rfl) (by exact rfl)
     | apply s_nilckE (by first|exact True.intro|rfl) (by exact rfl)
     | apply s_nilckF (by first|exact True.intro|rfl) (by exact rfl)
     | apply s_mkfn (by first|exact True.intro|rfl)
     | apply s_alloc (by first|exact True.intro|rfl)
     | apply s_box (by first|exact True.intro|rfl) (by exact rfl) (by exact rfl) (by exact rfl)
     | apply s_build (by first|exact True.intro|rfl) (by exact rfl)
     | apply s_storeB (by first|exact True.intro|rfl) (by exact rfl) (by exact rfl) (by exact rfl) (by exact rfl) (by exact rfl) (by exact rfl) (by exact rfl) (by exact rfl) (by exact rfl) (by exact rfl)
     | apply s_callA (by first|exact True.intro|rfl) (by exact rfl) (by exact rfl) (by assumption)
     | apply s_callS (by first|exact True.intro|rfl) (by exact rfl) (by exact rfl) (by assumption) (by (repeat (first|exact SubL.nil|refine SubL.cons (by first|exact Sub.refl _|exact Sub.nil _|exact Sub.any _|(refine Sub.agg ?_; repeat (first|exact SubL.nil|refine SubL.cons (by first|exact Sub.refl _|exact Sub.nil _) ?_))) ?_)))
     | apply s_callB (by first|exact True.intro|rfl) (by exact rfl) (by exact rfl) (by assumption) (by exact rfl)
     | apply s_callR (by first|exact True.intro|rfl) (by exact rfl) (by exact rfl) (by assumption)
     | apply s_callF (by first|exact True.intro|rfl) (by exact rfl) (by exact rfl) (by exact rfl) (by exact rfl) (by assumption) (by (repeat (first|exact SubL.nil|refine SubL.cons (by first|exact Sub.refl _|exact Sub.nil _|exact Sub.any _|(refine Sub.agg ?_; repeat (first|exact SubL.nil|refine SubL.cons (by first|exact Sub.refl _|exact Sub.nil _) ?_))) ?_)))
     | apply s_min (by first|exact True.intro|rfl) (by exact rfl) (by exact rfl) (by first|exact .inl ⟨by omega,Eq.refl _⟩|exact .inr ⟨by omega,Eq.refl _⟩)
     | apply s_max (by first|exact True.intro|rfl) (by exact rfl) (by exact rfl) (by first|exact .inl ⟨by omega,Eq.refl _⟩|exact .inr ⟨by omega,Eq.refl _⟩)
     | apply s_cap (by first|exact True.intro|rfl) (by exact rfl)
     | apply s_mx3 (by first|exact True.intro|rfl) (by exact rfl) (by exact rfl) (by exact rfl) (by first|assumption|exact Eq.refl _)
     | apply s_storeR [] (by first|exact True.intro|rfl) (by exact rfl) (by exact rfl) (by exact rfl) (by exact rfl) (by first|assumption|rfl) (by exact rfl) (by exact rfl) (by exact rfl) (by exact rfl) (by exact rfl) (by exact rfl)
     | apply s_rowlit [] (by first|exact True.intro|rfl) (by exact rfl) (by exact rfl) (by exact rfl) (by exact rfl)
     | apply s_append [] (by first|exact True.intro|rfl) (by exact rfl) (by exact rfl) (by exact rfl) (by exact rfl) (by exact rfl) (by exact rfl) (by exact rfl) (by exact rfl) (by first|omega|assumption|(dsimp only; omega)|(simp only [List.length_append,List.length_cons,List.length_nil,List.length_map,List.length_replicate,List.length_take,List.length_drop,chunk,intsA]; omega))
     | apply s_appendN [] (by first|exact True.intro|rfl) (by exact rfl) (by exact rfl) (by exact rfl) (by first|omega|assumption|(dsimp only; omega)|(simp only [List.length_append,List.length_cons,List.length_nil,List.length_map,List.length_replicate,List.length_take,List.length_drop,chunk,intsA]; omega))
     | apply s_storeRR (by first|exact True.intro|rfl) (by exact rfl) (by exact rfl) (by exact rfl) (by exact rfl) (by first|assumption|rfl) (by exact rfl) (by exact rfl) (by exact rfl) (by exact rfl) (by exact rfl) (by exact rfl)
     | apply s_rowlitR (by first|exact True.intro|rfl) (by exact rfl) (by exact rfl) (by exact rfl) (by exact rfl)
     | apply s_appendR (by first|exact True.intro|rfl) (by exact rfl) (by exact rfl) (by exact rfl) (by exact rfl) (by exact rfl) (by exact rfl) (by exact rfl) (by exact rfl) (by first|omega|assumption|(dsimp only; omega)|(simp only [List.length_append,List.length_cons,List.length_nil,List.length_map,List.length_replicate,List.length_take,List.length_drop,chunk,intsA]; omega))
     | apply s_appendNR (by first|exact True.intro|rfl) (by exact rfl) (by exact rfl) (by exact rfl) (by first|omega|assumption|(dsimp only; omega)|(simp only [List.length_append,List.length_cons,List.length_nil,List.length_map,List.length_replicate,List.length_take,List.length_drop,chunk,intsA]; omega))
     | apply s_sliceC (by first|exact True.intro|rfl) (by exact rfl) (by first|exact Eq.refl _|exact ⟨_,Eq.refl _⟩) (by first|exact Eq.refl _|exact ⟨_,Eq.refl _⟩) (by assumption)
     | apply s_iaddrO (by first|exact True.intro|rfl) (by exact rfl) (by exact rfl) (by exact rfl) (by exact rfl) (by exact rfl) (by omega) (by simp only [List.length_set,List.length_append,List.length_cons,List.length_nil,List.length_replicate]; omega)
     | apply s_load1 (by first|exact True.intro|rfl) (by exact rfl) (by exact rfl) (by assumption) (by exact rfl)
     | apply s_loadA (by first|exact True.intro|rfl) (by exact rfl) (by exact rfl) (by assumption) (by exact rfl)
     | apply s_loadG (by first|exact True.intro|rfl) (by exact rfl) (by exact rfl) (by assumption) (by exact rfl)
     | apply s_eqvL (by first|exact True.intro|rfl) (by exact rfl) (by exact rfl) (by assumption) (by first|assumption|omega)
     | apply s_neg64 (by first|exact True.intro|rfl) (by exact rfl) (by omega) (by omega)
     | apply s_iaddrA (by first|exact True.intro|rfl) (by exact rfl) (by exact rfl) (by omega) (by omega)
     | apply s_iaddrAE (by first|exact True.intro|rfl) (by exact rfl) (by exact rfl) (by omega) (by omega)
     | apply s_load1 (by first|exact True.intro|rfl) (by exact rfl) (by exact rfl) (by exact rfl) (by assumption)
     | apply s_loadE1 (by first|exact True.intro|rfl) (by exact rfl) (by first|assumption|rfl) (by assumption)
     | apply s_storeB (by first|exact True.intro|rfl) (by exact rfl) (by exact rfl) (by exact rfl) (by exact rfl) (by exact rfl) (by exact rfl) (by exact rfl) (by exact rfl) (by assumption) (by assumption)
     | apply s_iaddr (by first|exact True.intro|rfl) (by exact rfl) (by exact rfl) (by omega) (by simp only [List.length_map]; omega)
     | apply s_eqvP0 (by first|exact True.intro|rfl) (by exact rfl) (by exact rfl) (by assumption)
     | apply s_eqvP1 (by first|exact True.intro|rfl) (by exact rfl) (by exact rfl) (by assumption)
     | apply s_eqvPE (by first|exact True.intro|rfl) (by exact rfl) (by exact rfl) (by assumption)
     | apply s_mkmap (by first|exact True.intro|rfl)
     | apply s_lookYF (by first|exact True.intro|rfl) (by exact rfl) (by exact rfl) (by exact rfl) (by exact rfl) (by exact rfl) (by first|assumption|rfl)
     | apply s_lookYT (by first|exact True.intro|rfl) (by exact rfl) (by exact rfl) (by exact rfl) (by exact rfl) (by exact rfl) (by first|assumption|rfl)
     | apply s_lookNF (by first|exact True.intro|rfl) (by exact rfl) (by exact rfl) (by exact rfl) (by exact rfl) (by exact rfl) (by first|assumption|rfl)
     | apply s_lookNT (by first|exact True.intro|rfl) (by exact rfl) (by exact rfl) (by exact rfl) (by exact rfl) (by exact rfl) (by first|assumption|rfl)
     | apply s_mlen (by first|exact True.intro|rfl) (by exact rfl) (by exact rfl) (by exact rfl) (by exact rfl) (by first|assumption|rfl)
     | apply s_eqvM1 (by first|exact True.intro|rfl) (by exact rfl) (by exact rfl) (by exact rfl) (by exact rfl) (by exact rfl) (by assumption)
     | apply s_eqvM0 (by first|exact True.intro|rfl) (by exact rfl) (by exact rfl) (by assumption)
     | apply s_strEQT (by first|exact True.intro|rfl) (by exact rfl) (by exact rfl) (by first|assumption|rfl)
     | apply s_strEQF (by first|exact True.intro|rfl) (by exact rfl) (by exact rfl) (by first|assumption|decide)
     | apply s_strNET (by first|exact True.intro|rfl) (by exact rfl) (by exact rfl) (by first|assumption|decide)
     | apply s_strNEF (by first|exact True.intro|rfl) (by exact rfl) (by exact rfl) (by first|assumption|rfl)
     | apply s_mupd (by first|exact True.intro|rfl) (by exact rfl) (by exact rfl) (by exact rfl) (by exact rfl) (by exact rfl) (by exact rfl) (by exact rfl) (by exact rfl) (by first|assumption|decide) (by first|assumption|rfl) (by first|assumption|rfl)
     | apply s_mdelN (by first|exact True.intro|rfl) (by exact rfl) (by exact rfl) (by exact rfl) (by exact rfl) (by exact rfl) (by exact rfl) (by first|assumption|rfl) (by first|assumption|rfl)
     | apply s_mdelS (by first|exact True.intro|rfl) (by exact rfl) (by exact rfl) (by exact rfl) (by exact rfl) (by exact rfl) (by exact rfl) (by first|assumption|rfl) (by first|assumption|rfl)
     | apply s_make (by first|exact True.intro|rfl) (by exact rfl) (by exact rfl) (by omega) (by omega) (by omega)))); exact Runs.refl _ _ _)):RG P acc l st K:=rg_runs hR h
theorem wk5 {A G:Prop} (hG:G) (h:Left G→A:=by
 (intro hG; repeat (first|refine aw_seq ?_|refine aw_block ?_|refine aw_skip ?_|refine aw_exit ?_|refine aw_ret ?_|refine aw_cond_t rfl ?_|refine aw_cond_f rfl ?_|refine aw_condF rfl ?_|refine aw_condT rfl ?_|refine aw_reg (rrun5 ?_)|refine rg_nil (And.intro (by exact rfl) ?_))
  exact hG.out)):A:=h ⟨hG⟩
set_option linter.unusedSimpArgs false
section
variable {P:Program} {st:St} {d:Option Nat} {g:Option (Nat × Bool)}
theorem q_lookG {t:TypeId} {x y:Operand} {s:Rdg} {k:IntKind} {n:Int} {r:AV} (hg:gOK st g) (hx:ev st x=.sem s) (hy:ev st y=.lit (.int k n))
 (hs:∀ im w v,s.p im w v→∃ u,(Instr.lookup t v (.int k n) false).run P w=.ok u w∧RdI im w r u):Step P st ⟨⟨d,g,.lookG t x y⟩,r,[],[],0⟩ :=
  step_val [] hg fun o C E ac w sx hlow R hr hh=>by
 have h1:=hr x (by simp [AOp.opds])
 have h2:=lit_eval (hr y (by simp [AOp.opds])) hy
 rw [hx] at h1
 obtain ⟨u,hu,hR⟩:=hs _ _ _ h1
 obtain ⟨dst,o,ty,pos,after,guard⟩:=o
 obtain rfl:=low_spec hlow
 refine ⟨u,?_,RdI.rd _ _ hR⟩
 simp only [execOp,h2,Sem.run_bind,hu,Result.andThen_ok,Sem.run_pure]
end
section
variable {P:Program} {tt:List (Nat × AV)} {hh:Hp} {nn dd:Nat} {g:Option (Nat × Bool)} {l:List AInst} {acc:List SD} {K:List SD→St→Prop}
theorem r_lookG {t:TypeId} {x y:Operand} {s:Rdg} {k:IntKind} {n:Int} {r:AV} (hs:∀ im w v,s.p im w v→∃ u,(Instr.lookup t v (.int k n) false).run P w=.ok u w∧RdI im w r u)
 (h:RG P (⟨⟨some dd,g,.lookG t x y⟩,r,[],[],0⟩::acc) l ⟨(dd,r)::tt,hh,nn⟩ K) (hg:gOK ⟨tt,hh,nn⟩ g:=by first|exact True.intro|rfl) (hx:ev ⟨tt,hh,nn⟩ x=.sem s:=by rfl) (hy:ev ⟨tt,hh,nn⟩ y=.lit (.int k n):=by rfl):RG P acc (⟨some dd,g,.lookG t x y⟩::l) ⟨tt,hh,nn⟩ K:=RG.step (q_lookG hg hx hy hs) h
end
section
variable {P:Program} {st:St} {d:Option Nat} {g:Option (Nat × Bool)}
theorem take_mid {α:Type} (X us:List α) (A C L:Nat) (hu:us.length=C) (h1:A+C≤L) (h2:L≤X.length):(X.take A++us++X.drop (A+C)).take L=(X.take L).take A++(us++(X.take L).drop (A+C)):=by
 have hl:(X.take A++us).length=A+C:=by simp; omega
 rw [List.take_append,hl,List.take_of_length_le (by omega),List.take_take,Nat.min_eq_left (by omega),List.drop_take,List.append_assoc]
theorem q_copyW {sz id a n1 b n2 c:Nat} {x y:Operand} {ob:OB} (hg:gOK st g) (hs:ev st x=.osl id a n1) (hx:ev st y=.osl id b n2) (ho:hl st.h id=some ob) (hrow:ob.row=true) (hro:ob.ro=false) (hsz:ob.sz=sz)
 (hc:min n1 n2=c) (ha:a+n1≤ob.es.length) (hb:b+n2≤ob.es.length) :
 Step P st ⟨⟨d,g,.copy sz x y⟩,.lit (.int .i64 c),[id],[(id,some { ob with es:=ob.es.take a++((ob.es.drop b).take c++ob.es.drop (a+c)) })],0⟩:=by
 intro N ops o hlow C E ac w sx hN R hag hh hnw K Q hK
 rw [if_pos (wanted_of hlow R hag hg)]
 obtain ⟨h1,h2,h3,h4⟩:=lower_parts hlow
 have hsv:=eval_of R hag (x:=x) (by simp [AOp.opds])
 have hxv:=eval_of R hag (x:=y) (by simp [AOp.opds])
 rw [hs] at hsv; rw [hx] at hxv
 obtain ⟨hl1,b1,len1,cap1,hv1,hle1,hsv⟩:=hsv
 obtain ⟨_,b2,len2,cap2,hv2,hle2,hxv⟩:=hxv
 have ho':hl sx.h id=some ob:=by rw [hh id (.inr (by simp))]; exact ho
 obtain ⟨k1,k2⟩:=R.heap.ob id ob hl1 ho'
 rw [hrow] at k2
 obtain ⟨vs,a0,cap,j1,j2,j3,j4,j5⟩:=k2
 obtain ⟨dst,op,ty,pos,after,guard⟩:=o
 obtain ⟨t,t',e,gg,rfl,het,hsz'⟩:=low_spec h3
 obtain ⟨dd,i,q1,q2,q3,_⟩:=szOf_spec hsz'
 have hsize:(sizeOf e).run P w=.ok sz w:=by simp [sizeOf,typeInfo,q2,q3]
 have hut:P.underlying t=some (.slice e):=elemsOf_spec' het
 rw [hv2] at hv1
 simp only [Value.slice.injEq,Option.some.injEq,Addr.mk.injEq,and_true] at hv1
 obtain ⟨rfl,rfl,rfl⟩:=hv1
 unfold Oper.wp
 rcases j2.2 with ⟨hv0,h0⟩|⟨g',c',cur,hvv,_,hcur,hnc,hcm,hcs,htake⟩
 ·have hj:=hv2.symm.trans hv0
  cases hj
 ·have hj:=hv2.symm.trans hvv
  simp only [Value.slice.injEq,Option.some.injEq,Addr.mk.injEq,and_true] at hj
  obtain ⟨rfl,rfl,rfl⟩:=hj
  have hbk:blkOf (E.val id)=some b2:=by rw [hv2]; rfl
  have hsz1:E.sz id=ob.sz:=k1
  rw [hsz1,hsz] at hsv hxv
  rw [hsz] at hcs htake j3
  have hclen:(cur.toList.length)=cap2 * sz:=by rw [← hcs]; simp
  have hvt:vs=cur.toList.take (ob.es.length * sz):=htake.symm
  have hvl:vs.length=ob.es.length * sz:=j3.length
  have hc1:c≤n1:=hc ▸ Nat.min_le_left _ _
  have hc2:c≤n2:=hc ▸ Nat.min_le_right _ _
  have m1:(b+c) * sz≤ob.es.length * sz:=Nat.mul_le_mul_right _ (by omega)
  have m2:(a+c) * sz≤ob.es.length * sz:=Nat.mul_le_mul_right _ (by omega)
  have m3:ob.es.length * sz≤cap2 * sz:=Nat.mul_le_mul_right _ hnc
  rw [Nat.add_mul] at m1 m2
  obtain ⟨us,hus⟩:∃ us,us=(vs.drop (b * sz)).take (c * sz):=⟨_,rfl⟩
  have hul:us.length=c * sz:=by rw [hus]; simp; omega
  have huo:∀ u ∈ us,u.oneCell'=true:=fun u hu=>by rw [hus] at hu; exact j4 u (List.mem_of_mem_drop (List.mem_of_mem_take hu))
  have hrd:RdIE E.im w sz ((ob.es.drop b).take c) us:=by rw [hus]; exact RdIE.take c (RdIE.drop b j3)
  have hcell:∀ j v,us[j]? = some v→w.cell? ((⟨b2,b * sz,none⟩:Addr).add j)=some v:=fun j v hv=>by
   rw [addr_add]
   have hjl:j<c * sz:=by rw [← hul]; exact (List.getElem?_eq_some_iff.1 hv).1
   rw [hus,List.getElem?_take,if_pos hjl,List.getElem?_drop,hvt,List.getElem?_take,if_pos (by omega)] at hv
   simp only [World.cell?,hcur]
   rw [Array.getElem?_toList] at hv
   exact hv
  have hfc:=run_firstCells_some (P:=P) (w:=w) sz c ⟨b2,b * sz,none⟩ n2 (cap2 - b) us hul hcell
  have hmin:Nat.min n2 n1=c:=by rw [← hc]; exact Nat.min_comm _ _
  have hmin':Nat.min n1 n2=c:=hc
  have hst:=run_storeCells_at P b2 (a * sz) ob.e us 0 cur w hcur (by rw [Nat.add_zero,hul]; have:cur.size=cap2 * sz:=hcs; omega) huo
  simp only [Nat.add_zero] at hst
  generalize hW:(cur.toList.take (a * sz)++us++cur.toList.drop (a * sz+us.length)).toArray=W at hst
  have hrun:(execOp ac.eval ⟨dst,.call { callee:=.builtin .copy,args := #[x,y],argTypes := #[t,t'] },ty,pos,after,guard⟩).run P w=.ok (.value (.int .i64 c)) (w.setRow b2 W):=by
   simp only [execOp,resolve,Sem.run_bind,Sem.run_pure,Result.andThen_ok,invoke,builtin,List.map_toArray,List.map_cons,List.map_nil,hsv,hxv]
   simp [Builtin.copy_,run_underlying hut,Builtin.lenOf,hsize,hmin,hmin',hfc,hst,goInt]
  rw [hrun,Oper.upon_value]
  refine hK _ _ E ?_ (fun id h=>.inl h)
  have hgr:w.grownBy (w.setRow b2 W) (some b2):=setRow_grown
  have hnim:¬ E.im b2:=fun h=>by have:=(R.heap.im id ob b2 hl1 ho' hbk).1 h; rw [hro] at this; cases this
  have hw:∀ k,E.im k→(w.setRow b2 W).heap[k]? = w.heap[k]? := fun k hk=>hgr.block k (R.heap.lt k hk) (fun e=>by simp at e; subst e; exact hnim hk)
  have hWl:W.toList=cur.toList.take (a * sz)++us++cur.toList.drop (a * sz+us.length):=by rw [← hW]
  have hlen':(ob.es.take a++((ob.es.drop b).take c++ob.es.drop (a+c))).length=ob.es.length:=by simp; omega
  have hob:obOK E (w.setRow b2 W) id { ob with es:=ob.es.take a++((ob.es.drop b).take c++ob.es.drop (a+c)) }:=by
   refine ⟨k1,?_⟩
   simp only [hrow,cond_true]
   have hE:RdIE E.im w ob.sz (ob.es.take a++((ob.es.drop b).take c++ob.es.drop (a+c))) (vs.take (a * sz)++(us++vs.drop ((a+c) * sz))):=by
    rw [hsz]
    exact (RdIE.take a j3).append (hrd.append (RdIE.drop (a+c) j3))
   have hl2:=hE.length
   rw [hlen'] at hl2
   refine ⟨vs.take (a * sz)++(us++vs.drop ((a+c) * sz)),some ⟨b2,0,none⟩,cap2,by simp only [hlen']; exact hv2,⟨?_,.inr ⟨b2,cap2,W,?_,Nat.zero_le _,setRow_heap w b2 cur W ob.e (0,0) hcur,by simp only [hlen']; exact hnc,hcm,?_,?_⟩⟩,RdIE.mono (fun _ h=>h) hw _ _ _ hE,?_,by simp only [hlen']; exact j5⟩
   ·simp only [hlen']; exact hl2
   ·simp only [hlen']; exact hv2
   ·rw [hsz,← hcs]; have:=congrArg List.length hWl; simp at this ⊢; omega
   ·simp only [hlen']
    rw [hWl,hvt,hsz,hul]
    rw [Nat.add_mul]
    exact take_mid _ _ _ _ _ hul (by omega) (by omega)
   ·intro u hu
    rcases List.mem_append.1 hu with hu|hu
    ·exact j4 u (List.mem_of_mem_take hu)
    ·rcases List.mem_append.1 hu with hu|hu
     ·exact huo u hu
     ·exact j4 u (List.mem_of_mem_drop hu)
  have:=(R.upd hl1 ho' hro hbk hgr hob hro).put (d:=dst) (fun k hk=>by rw [hN]; exact h2 k hk) (v:=.lit (.int .i64 c)) (u:=.int .i64 c) rfl
  simp only [St.appx]
  rw [show d=dst from h1]
  exact this
end
section
variable {P:Program} {tt:List (Nat × AV)} {hh:Hp} {nn dd:Nat} {g:Option (Nat × Bool)} {l:List AInst} {acc:List SD} {K:List SD→St→Prop}
theorem r_copyW {sz id a n1 b n2:Nat} {x y:Operand} {ob:OB} (c:Nat) (es:List (List AV)) (hc:min n1 n2=c) (ha:a+n1≤ob.es.length) (hb:b+n2≤ob.es.length) (he:ob.es.take a++((ob.es.drop b).take c++ob.es.drop (a+c))=es)
 (h:RG P (⟨⟨some dd,g,.copy sz x y⟩,.lit (.int .i64 c),[id],[(id,some { ob with es:=es })],0⟩::acc) l ⟨(dd,.lit (.int .i64 c))::tt,(id,some { ob with es:=es })::hh,nn⟩ K)
 (hg:gOK ⟨tt,hh,nn⟩ g:=by first|exact True.intro|rfl) (hs:ev ⟨tt,hh,nn⟩ x=.osl id a n1:=by rfl) (hx:ev ⟨tt,hh,nn⟩ y=.osl id b n2:=by rfl) (ho:hl hh id=some ob:=by rfl) (hrow:ob.row=true:=by rfl) (hro:ob.ro=false:=by rfl) (hsz:ob.sz=sz:=by rfl):RG P acc (⟨some dd,g,.copy sz x y⟩::l) ⟨tt,hh,nn⟩ K:=by
 subst he
 exact RG.step (q_copyW hg hs hx ho hrow hro hsz hc ha hb) h
end
section
variable {P:Program} {st:St} {d:Option Nat} {g:Option (Nat × Bool)}
theorem q_copyZ {sz id:Nat} {x y:Operand} {ob:OB} {av:AV} {news:List (List AV)} (rd:List Nat) (hg:gOK st g) (hs:ev st x=.own id) (ho:hl st.h id=some ob) (hrow:ob.row=true) (hsz:ob.sz=sz) (hes:ob.es=[])
 (hx:ev st y=av) (hn:srcA (restr rd st.h) sz av=some news) (hid:id ∈ rd) :
 Step P st ⟨⟨d,g,.copy sz x y⟩,.lit (.int .i64 0),rd,[],0⟩:=by
 intro N ops o hlow C E ac w sx hN R hag hh hnw K Q hK
 rw [if_pos (wanted_of hlow R hag hg)]
 obtain ⟨h1,h2,h3,h4⟩:=lower_parts hlow
 have hsv:=eval_of R hag (x:=x) (by simp [AOp.opds])
 have hxv:=eval_of R hag (x:=y) (by simp [AOp.opds])
 rw [hs] at hsv; rw [hx] at hxv
 obtain ⟨hl1,_,hsv⟩:=hsv
 have ho':hl sx.h id=some ob:=by rw [hh id (.inl hid)]; exact ho
 have H0:HeapOK E w (restr rd st.h):=R.heap.restr (fun id hid=>hh id (.inl hid))
 obtain ⟨k1,k2⟩:=R.heap.ob id ob hl1 ho'
 rw [hrow] at k2
 obtain ⟨vs,a0,cap,j1,j2,j3,j4,j5⟩:=k2
 obtain ⟨ax,cx,us,x1,x2,x3,x4,x5,x6,x7⟩:=srcA_rd H0 hn hxv
 obtain ⟨dst,op,ty,pos,after,guard⟩:=o
 obtain ⟨t,t',e,gg,rfl,het,hsz'⟩:=low_spec h3
 obtain ⟨dd,i,q1,q2,q3,_⟩:=szOf_spec hsz'
 have hsize:(sizeOf e).run P w=.ok sz w:=by simp [sizeOf,typeInfo,q2,q3]
 have hut:P.underlying t=some (.slice e):=elemsOf_spec' het
 rw [hes] at j1
 have hfc:∀ v:Value,(v=.slice ax news.length cx)→(Builtin.firstCells sz 0 v).run P w=.ok #[] w:=fun v hv=>by
  subst hv
  cases ax with
  | none=>exact run_firstCells_none _ _ _ _ _
  | some ad=>exact run_firstCells_some (P:=P) (w:=w) sz 0 ad news.length cx [] (by simp) (by simp)
 have hrun:(execOp ac.eval ⟨dst,.call { callee:=.builtin .copy,args := #[x,y],argTypes := #[t,t'] },ty,pos,after,guard⟩).run P w=.ok (.value (.int .i64 0)) w:=by
  simp only [execOp,resolve,Sem.run_bind,Sem.run_pure,Result.andThen_ok,invoke,builtin,List.map_toArray,List.map_cons,List.map_nil,hsv,j1,x1]
  cases a0<;>simp [Builtin.copy_,run_underlying hut,Builtin.lenOf,hsize,hfc _ rfl,goInt,storeCells]
 unfold Oper.wp
 rw [hrun,Oper.upon_value]
 refine hK _ _ E ?_ (fun id h=>.inl h)
 have:=R.put (d:=dst) (fun k hk=>by rw [hN]; exact h2 k hk) (v:=.lit (.int .i64 0)) (u:=.int .i64 0) rfl
 simp only [St.appx,List.nil_append]
 rw [show d=dst from h1]
 exact this
end
section
variable {P:Program} {tt:List (Nat × AV)} {hh:Hp} {nn dd:Nat} {g:Option (Nat × Bool)} {l:List AInst} {acc:List SD} {K:List SD→St→Prop}
theorem r_copyZ {sz id:Nat} {x y:Operand} {ob:OB} {av:AV} {news:List (List AV)} (rd:List Nat) (hid:id ∈ rd) (hes:ob.es=[])
 (h:RG P (⟨⟨some dd,g,.copy sz x y⟩,.lit (.int .i64 0),rd,[],0⟩::acc) l ⟨(dd,.lit (.int .i64 0))::tt,hh,nn⟩ K)
 (hg:gOK ⟨tt,hh,nn⟩ g:=by first|exact True.intro|rfl) (hs:ev ⟨tt,hh,nn⟩ x=.own id:=by rfl) (hx:ev ⟨tt,hh,nn⟩ y=av:=by rfl) (ho:hl hh id=some ob:=by rfl) (hn:srcA (restr rd hh) sz av=some news:=by rfl) (hrow:ob.row=true:=by rfl) (hsz:ob.sz=sz:=by rfl):RG P acc (⟨some dd,g,.copy sz x y⟩::l) ⟨tt,hh,nn⟩ K :=
  RG.step (q_copyZ rd hg hs ho hrow hsz hes hx hn hid) h
end
def fn_math_bits_Add32:AFn:=by refine (fun (F:AFn)(_:⟨22,[.t 6,.t 7],Ss (Oo [Ii 6 (.mov (.const (.int .u32 0))),Ii 7 (.mov (.const (.int .u32 0)))]) (Ss (Oo [Mv 9 0,Ii 10 (.conv .u64 (Tt 9)),Mv 11 1,Ii 12 (.conv .u64 (Tt 11)),Ii 13 (.bin .add (Tt 10) (Tt 12)),Mv 14 2,Ii 15 (.conv .u64 (Tt 14)),Ii 16 (.bin .add (Tt 13) (Tt 15)),Mv 8 16]) (Ss (Oo [Mv 17 8,Ii 18 (.conv .u32 (Tt 17)),Mv 6 18]) (Ss (Oo [Mv 19 8,Ii 20 (.bin .shr (Tt 19) (.const (.int .u64 32))),Ii 21 (.conv .u32 (Tt 20)),Mv 7 21]) .ret)))⟩=F)=>F) ?_ ?_;rotate_left;dsimp only[Tt,Ii,Mv,Oo,Ss];exact rfl
theorem code_math_bits_Add32:lowerF Tryz.prog 255 = some fn_math_bits_Add32:=by kernel_rfl
def fn_math_bits_Sub32:AFn:=by refine (fun (F:AFn)(_:⟨25,[.t 6,.t 7],Ss (Oo [Ii 6 (.mov (.const (.int .u32 0))),Ii 7 (.mov (.const (.int .u32 0)))]) (Ss (Oo [Mv 8 0,Mv 9 1,Ii 10 (.bin .sub (Tt 8) (Tt 9)),Mv 11 2,Ii 12 (.bin .sub (Tt 10) (Tt 11)),Mv 6 12]) (Ss (Oo [Mv 13 0,Ii 14 (.un .xor (Tt 13)),Mv 15 1,Ii 16 (.bin .and (Tt 14) (Tt 15)),Mv 17 0,Mv 18 1,Ii 19 (.bin .xor (Tt 17) (Tt 18)),Ii 20 (.un .xor (Tt 19)),Mv 21 6,Ii 22 (.bin .and (Tt 20) (Tt 21)),Ii 23 (.bin .or (Tt 16) (Tt 22)),Ii 24 (.bin .shr (Tt 23) (.const (.int .u64 31))),Mv 7 24]) .ret))⟩=F)=>F) ?_ ?_;rotate_left;dsimp only[Tt,Ii,Mv,Oo,Ss];exact rfl
theorem code_math_bits_Sub32:lowerF Tryz.prog 256 = some fn_math_bits_Sub32:=by kernel_rfl
def fn_math_bits_LeadingZeros32:AFn:=by refine (fun (F:AFn)(_:⟨6,[.t 2],Ss (Oo [Ii 2 (.mov (Nn 0))]) (Ss (Oo [Mv 3 0,Ca 4 263 [Tt 3],Ii 5 (.bin .sub (Nn 32) (Tt 4)),Mv 2 5]) .ret)⟩=F)=>F) ?_ ?_;rotate_left;dsimp only[Tt,Nn,Ii,Mv,Ca,Oo,Ss];exact rfl
theorem code_math_bits_LeadingZeros32:lowerF Tryz.prog 257 = some fn_math_bits_LeadingZeros32:=by kernel_rfl
def fn_math_bits_Len32:AFn:=by refine (fun (F:AFn)(_:⟨19,[.t 2],Ss (Oo [Ii 2 (.mov (Nn 0))]) (Ss (Ss (Oo [Mv 3 0,Ii 4 (.bin .geq (Tt 3) (.const (.int .u32 65536)))]) (.cond (Tt 4) (Ss (Oo [Mv 5 0,Ii 6 (.bin .shr (Tt 5) (.const (.int .u64 16))),Mv 0 6]) (Oo [Ii 2 (.mov (Nn 16))])) .skip)) (Ss (Ss (Oo [Mv 7 0,Ii 8 (.bin .geq (Tt 7) (.const (.int .u32 256)))]) (.cond (Tt 8) (Ss (Oo [Mv 9 0,Ii 10 (.bin .shr (Tt 9) (.const (.int .u64 8))),Mv 0 10]) (Oo [Mv 11 2,Ii 12 (.bin .add (Tt 11) (Nn 8)),Mv 2 12])) .skip)) (Ss (Oo [Mv 13 2,Mv 14 0,Ii 15 (.conv .u8 (Tt 14)),Ii 16 (.sidx (.const (.string ⟨#[0,1,2,2,3,3,3,3,4,4,4,4,4,4,4,4,5,5,5,5,5,5,5,5,5,5,5,5,5,5,5,5,6,6,6,6,6,6,6,6,6,6,6,6,6,6,6,6,6,6,6,6,6,6,6,6,6,6,6,6,6,6,6,6,7,7,7,7,7,7,7,7,7,7,7,7,7,7,7,7,7,7,7,7,7,7,7,7,7,7,7,7,7,7,7,7,7,7,7,7,7,7,7,7,7,7,7,7,7,7,7,7,7,7,7,7,7,7,7,7,7,7,7,7,7,7,7,7,8,8,8,8,8,8,8,8,8,8,8,8,8,8,8,8,8,8,8,8,8,8,8,8,8,8,8,8,8,8,8,8,8,8,8,8,8,8,8,8,8,8,8,8,8,8,8,8,8,8,8,8,8,8,8,8,8,8,8,8,8,8,8,8,8,8,8,8,8,8,8,8,8,8,8,8,8,8,8,8,8,8,8,8,8,8,8,8,8,8,8,8,8,8,8,8,8,8,8,8,8,8,8,8,8,8,8,8,8,8,8,8,8,8,8,8,8,8,8,8,8,8,8,8,8,8,8,8]⟩)) (Tt 15)),Ii 17 (.conv .i64 (Tt 16)),Ii 18 (.bin .add (Tt 13) (Tt 17)),Mv 2 18]) .ret)))⟩=F)=>F) ?_ ?_;rotate_left;dsimp only[Tt,Nn,Ii,Mv,Oo,Ss];exact rfl
theorem code_math_bits_Len32:lowerF Tryz.prog 263 = some fn_math_bits_Len32:=by kernel_rfl
def fn_nat_up:AFn:=by refine (fun (F:AFn)(_:⟨43,[.t 4],Ss (Oo [Ii 4 (.mov (.const (.slice none 0 0)))]) (Ss (Oo [Mv 10 0,Le 11 10,Ii 12 (.bin .add (Tt 11) (Nn 1)),Ii 13 (.make 145 1 4 [.int .u32 0] (Tt 12) (Tt 12)),Mv 5 13]) (Ss (Oo [Ii 6 (.mov (.const (.int .u64 0)))]) (Ss (Ss (Oo [Mv 14 0,Le 15 14,Ii 16 (.mov (Nn 0))]) (.block 0 (.loop (Ss (Oo [Ii 17 (.bin .lss (Tt 16) (Tt 15))]) (Ss (.cond (Tt 17) .skip (.exit 0)) (Ss (.block 1 (Ss (Oo [Mv 18 16,Ia 19 1 14 16,Lf 20 19,Mv 7 18,Mv 8 20]) (Ss (Oo [Mv 21 8,Ii 22 (.conv .u64 (Tt 21)),Mv 23 1,Ii 24 (.conv .u64 (Tt 23)),Ii 25 (.bin .shl (Tt 22) (Tt 24)),Mv 26 6,Ii 27 (.bin .or (Tt 25) (Tt 26)),Mv 9 27]) (Ss (Oo [Mv 28 5,Mv 29 7,Mv 30 9,Ii 31 (.conv .u32 (Tt 30)),Ia 32 1 28 29,Sr 1 32 31]) (Oo [Mv 33 9,Ii 34 (.bin .shr (Tt 33) (.const (.int .u64 32))),Mv 6 34]))))) (Oo [Ii 35 (.bin .add (Tt 16) (Nn 1)),Mv 16 35]))))))) (Ss (Oo [Mv 36 5,Mv 37 0,Le 38 37,Mv 39 6,Ii 40 (.conv .u32 (Tt 39)),Ia 41 1 36 38,Sr 1 41 40]) (Ss (Oo [Mv 42 5,Mv 4 42]) .ret)))))⟩=F)=>F) ?_ ?_;rotate_left;dsimp only[Tt,Nn,Ii,Mv,Lf,Le,Ia,Sr,Oo,Ss];exact rfl
theorem code_nat_up:lowerF Tryz.prog 258 = some fn_nat_up:=by kernel_rfl
def fn_nat_down:AFn:=by refine (fun (F:AFn)(_:⟨42,[.t 4],Ss (Oo [Ii 4 (.mov (.const (.slice none 0 0)))]) (Ss (Oo [Mv 9 0,Le 10 9,Ii 11 (.make 145 1 4 [.int .u32 0] (Tt 10) (Tt 10)),Mv 5 11]) (Ss (Oo [Ii 6 (.mov (.const (.int .u64 0)))]) (Ss (Ss (Oo [Mv 12 0,Le 13 12,Ii 14 (.bin .sub (Tt 13) (Nn 1)),Mv 7 14]) (.block 0 (.loop (Ss (Ss (Oo [Mv 15 7,Ii 16 (.bin .geq (Tt 15) (Nn 0))]) (.cond (Tt 16) .skip (.exit 0))) (Ss (.block 1 (Ss (Oo [Mv 19 6,Ii 20 (.bin .shl (Tt 19) (.const (.int .u64 32))),Mv 21 0,Mv 22 7,Ia 23 1 21 22,Lf 24 23,Ii 25 (.conv .u64 (Tt 24)),Ii 26 (.bin .or (Tt 20) (Tt 25)),Mv 27 1,Ii 28 (.conv .u64 (Tt 27)),Ii 29 (.bin .shr (Tt 26) (Tt 28)),Mv 8 29]) (Ss (Oo [Mv 30 5,Mv 31 7,Mv 32 8,Ii 33 (.conv .u32 (Tt 32)),Ia 34 1 30 31,Sr 1 34 33]) (Oo [Mv 35 0,Mv 36 7,Ia 37 1 35 36,Lf 38 37,Ii 39 (.conv .u64 (Tt 38)),Mv 6 39])))) (Oo [Mv 17 7,Ii 18 (.bin .sub (Tt 17) (Nn 1)),Mv 7 18])))))) (Ss (Oo [Mv 40 5,Ca 41 241 [Tt 40],Mv 4 41]) .ret))))⟩=F)=>F) ?_ ?_;rotate_left;dsimp only[Tt,Nn,Ii,Mv,Lf,Le,Ia,Sr,Ca,Oo,Ss];exact rfl
theorem code_nat_down:lowerF Tryz.prog 262 = some fn_nat_down:=by kernel_rfl
def fn_nat_estimate:AFn:=by refine (fun (F:AFn)(_:⟨77,[.t 4],Ss (Oo [Ii 4 (.mov (.const (.int .u64 0)))]) (Ss (Oo [Mv 9 1,Le 10 9,Mv 5 10]) (Ss (.ops true [Mv 11 0,Mv 12 5,Ia 13 1 11 12,Lf 14 13,Ii 15 (.conv .u64 (Tt 14)),Ii 16 (.bin .shl (Tt 15) (.const (.int .u64 32))),Mv 17 0,Mv 18 5,Ii 19 (.bin .sub (Tt 18) (Nn 1)),Ia 20 1 17 19,Lf 21 20,Ii 22 (.conv .u64 (Tt 21)),Ii 23 (.bin .or (Tt 16) (Tt 22)),Mv 6 23] [(2,9),(3,9),(2,10),(3,10)]) (Ss (.ops true [Mv 24 6,Mv 25 1,Mv 26 5,Ii 27 (.bin .sub (Tt 26) (Nn 1)),Ia 28 1 25 27,Lf 29 28,Ii 30 (.conv .u64 (Tt 29)),Ii 31 (.bin .quo (Tt 24) (Tt 30)),Mv 32 6,Mv 33 1,Mv 34 5,Ii 35 (.bin .sub (Tt 34) (Nn 1)),Ia 36 1 33 35,Lf 37 36,Ii 38 (.conv .u64 (Tt 37)),Ii 39 (.bin .rem (Tt 32) (Tt 38)),Mv 7 31,Mv 8 39] [(4,12),(5,12),(4,13),(5,13)]) (Ss (.block 0 (.loop (Ss (Ss (.ops true [Mv 40 7,Ii 41 (.bin .shr (Tt 40) (.const (.int .u64 32))),Ii 42 (.bin .neq (Tt 41) (.const (.int .u64 0))),Mv 43 42,Ig 44 43 false (.mov (Tt 7)),Ig 45 43 false (.mov (Tt 1)),Ig 46 43 false (.mov (Tt 5)),Ig 47 43 false (.bin .sub (Tt 46) (Nn 2)),Ig 48 43 false (.iaddr 1 (Tt 45) (Tt 47)),Ig 49 43 false (.load false 1 (Tt 48)),Ig 50 43 false (.conv .u64 (Tt 49)),Ig 51 43 false (.bin .mul (Tt 44) (Tt 50)),Ig 52 43 false (.mov (Tt 8)),Ig 53 43 false (.bin .shl (Tt 52) (.const (.int .u64 32))),Ig 54 43 false (.mov (Tt 0)),Ig 55 43 false (.mov (Tt 5)),Ig 56 43 false (.bin .sub (Tt 55) (Nn 2)),Ig 57 43 false (.iaddr 1 (Tt 54) (Tt 56)),Ig 58 43 false (.load false 1 (Tt 57)),Ig 59 43 false (.conv .u64 (Tt 58)),Ig 60 43 false (.bin .or (Tt 53) (Tt 59)),Ig 61 43 false (.bin .gtr (Tt 51) (Tt 60)),Ii 62 (.pick (Tt 43) (Bo true) (Tt 61))] [(8,17),(9,17),(8,18),(9,18)]) (.cond (Tt 62) .skip (.exit 0))) (.block 1 (Ss (Oo [Mv 63 7,Ii 64 (.bin .sub (Tt 63) (.const (.int .u64 1))),Mv 7 64]) (Ss (Oo [Mv 65 8,Mv 66 1,Mv 67 5,Ii 68 (.bin .sub (Tt 67) (Nn 1)),Ia 69 1 66 68,Lf 70 69,Ii 71 (.conv .u64 (Tt 70)),Ii 72 (.bin .add (Tt 65) (Tt 71)),Mv 8 72]) (Ss (Oo [Mv 73 8,Ii 74 (.bin .shr (Tt 73) (.const (.int .u64 32))),Ii 75 (.bin .neq (Tt 74) (.const (.int .u64 0)))]) (.cond (Tt 75) (.exit 0) .skip)))))))) (Ss (Oo [Mv 76 7,Mv 4 76]) .ret)))))⟩=F)=>F) ?_ ?_;rotate_left;dsimp only[Tt,Nn,Bo,Ii,Ig,Mv,Lf,Le,Ia,Oo,Ss];exact rfl
theorem code_nat_estimate:lowerF Tryz.prog 259 = some fn_nat_estimate:=by kernel_rfl
def fn_nat_takeOff:AFn:=by refine (fun (F:AFn)(_:⟨61,[.t 6],Ss (Oo [Ii 6 (.mov (Bo false))]) (Ss (Oo [Ii 7 (.mov (.const (.int .u64 0))),Ii 8 (.mov (.const (.int .u32 0)))]) (Ss (Ss (Oo [Mv 13 1,Le 14 13,Ii 15 (.mov (Nn 0))]) (.block 0 (.loop (Ss (Oo [Ii 16 (.bin .lss (Tt 15) (Tt 14))]) (Ss (.cond (Tt 16) .skip (.exit 0)) (Ss (.block 1 (Ss (Oo [Mv 17 15,Ia 18 1 13 15,Lf 19 18,Mv 9 17,Mv 10 19]) (Ss (Oo [Mv 20 2,Mv 21 10,Ii 22 (.conv .u64 (Tt 21)),Ii 23 (.bin .mul (Tt 20) (Tt 22)),Mv 24 7,Ii 25 (.bin .add (Tt 23) (Tt 24)),Mv 11 25]) (Ss (Oo [Mv 26 11,Ii 27 (.bin .shr (Tt 26) (.const (.int .u64 32))),Mv 7 27]) (Oo [Mv 29 0,Mv 30 9,Mv 31 0,Mv 32 9,Ia 33 1 31 32,Lf 34 33,Mv 35 11,Ii 36 (.conv .u32 (Tt 35)),Mv 37 8,Ca 38 256 [Tt 34,Tt 36,Tt 37],Mv 28 38,Ex 39 0 28,Ex 40 1 28,Ia 41 1 29 30,Sr 1 41 39,Mv 8 40]))))) (Oo [Ii 42 (.bin .add (Tt 15) (Nn 1)),Mv 15 42]))))))) (Ss (Oo [Mv 43 1,Le 44 43,Mv 12 44]) (Ss (Oo [Mv 46 0,Mv 47 12,Mv 48 0,Mv 49 12,Ia 50 1 48 49,Lf 51 50,Mv 52 7,Ii 53 (.conv .u32 (Tt 52)),Mv 54 8,Ca 55 256 [Tt 51,Tt 53,Tt 54],Mv 45 55,Ex 56 0 45,Ex 57 1 45,Ia 58 1 46 47,Sr 1 58 56,Mv 8 57]) (Ss (Oo [Mv 59 8,Ii 60 (.bin .neq (Tt 59) (.const (.int .u32 0))),Mv 6 60]) .ret)))))⟩=F)=>F) ?_ ?_;rotate_left;dsimp only[Tt,Nn,Bo,Ii,Mv,Lf,Ex,Le,Ia,Sr,Ca,Oo,Ss];exact rfl
theorem code_nat_takeOff:lowerF Tryz.prog 260 = some fn_nat_takeOff:=by kernel_rfl
def fn_nat_putBack:AFn:=by refine (fun (F:AFn)(_:⟨36,[],Ss (Oo [Ii 4 (.mov (.const (.int .u32 0)))]) (Ss (Ss (Oo [Mv 7 1,Le 8 7,Ii 9 (.mov (Nn 0))]) (.block 0 (.loop (Ss (Oo [Ii 10 (.bin .lss (Tt 9) (Tt 8))]) (Ss (.cond (Tt 10) .skip (.exit 0)) (Ss (.block 1 (Ss (Oo [Mv 11 9,Ia 12 1 7 9,Lf 13 12,Mv 5 11,Mv 6 13]) (Oo [Mv 15 0,Mv 16 5,Mv 17 0,Mv 18 5,Ia 19 1 17 18,Lf 20 19,Mv 21 6,Mv 22 4,Ca 23 255 [Tt 20,Tt 21,Tt 22],Mv 14 23,Ex 24 0 14,Ex 25 1 14,Ia 26 1 15 16,Sr 1 26 24,Mv 4 25]))) (Oo [Ii 27 (.bin .add (Tt 9) (Nn 1)),Mv 9 27]))))))) (Oo [Mv 28 0,Mv 29 1,Le 30 29,Ia 31 1 28 30,Lf 32 31,Mv 33 4,Ii 34 (.bin .add (Tt 32) (Tt 33)),Ia 35 1 28 30,Sr 1 35 34]))⟩=F)=>F) ?_ ?_;rotate_left;dsimp only[Tt,Nn,Ii,Mv,Lf,Ex,Le,Ia,Sr,Ca,Oo,Ss];exact rfl
theorem code_nat_putBack:lowerF Tryz.prog 261 = some fn_nat_putBack:=by kernel_rfl
def fn_nat_Gcd:AFn:=by refine (fun (F:AFn)(_:⟨39,[.t 4],Ss (Oo [Ii 4 (.mov (.const (.slice none 0 0)))]) (Ss (Oo [Mv 8 0,Ca 9 241 [Tt 8],Mv 10 1,Ca 11 241 [Tt 10],Mv 0 9,Mv 1 11]) (Ss (.block 0 (.loop (Ss (Ss (Oo [Mv 12 1,Le 13 12,Ii 14 (.bin .gtr (Tt 13) (Nn 0))]) (.cond (Tt 14) .skip (.exit 0))) (.block 1 (Ss (Ss (Oo [Mv 15 0,Le 16 15,Ii 17 (.bin .leq (Tt 16) (Nn 2)),Mv 18 17,Ig 19 18 true (.mov (Tt 1)),Ig 20 18 true (.len (Tt 19)),Ig 21 18 true (.bin .leq (Tt 20) (Nn 2)),Ii 22 (.pick (Tt 18) (Tt 21) (Bo false))]) (.cond (Tt 22) (Ss (Oo [Mv 23 0,Ca 24 252 [Tt 23],Mv 25 1,Ca 26 252 [Tt 25],Ca 27 251 [Tt 24,Tt 26],Mv 4 27]) .ret) .skip)) (Ss (Oo [Mv 29 0,Mv 30 1,Ca 31 243 [Tt 29,Tt 30],Mv 28 31,Ex 32 0 28,Ex 33 1 28,Ex 34 2 28,Mv 5 32,Mv 6 33,Mv 7 34]) (Oo [Mv 35 1,Mv 36 6,Mv 0 35,Mv 1 36]))))))) (Ss (Oo [Mv 37 0,Ca 38 223 [Tt 37],Mv 4 38]) .ret)))⟩=F)=>F) ?_ ?_;rotate_left;dsimp only[Tt,Nn,Bo,Ii,Ig,Mv,Ex,Le,Ca,Oo,Ss];exact rfl
theorem code_nat_Gcd:lowerF Tryz.prog 240 = some fn_nat_Gcd:=by kernel_rfl
def fn_nat_word:AFn:=by refine (fun (F:AFn)(_:⟨23,[.t 2],Ss (Oo [Ii 2 (.mov (.const (.int .u64 0)))]) (Ss (Oo [Ii 3 (.mov (.const (.int .u64 0)))]) (Ss (Ss (Oo [Mv 6 0,Le 7 6,Ii 8 (.mov (Nn 0))]) (.block 0 (.loop (Ss (Oo [Ii 9 (.bin .lss (Tt 8) (Tt 7))]) (Ss (.cond (Tt 9) .skip (.exit 0)) (Ss (.block 1 (Ss (Oo [Mv 10 8,Ia 11 1 6 8,Lf 12 11,Mv 4 10,Mv 5 12]) (Oo [Mv 13 3,Mv 14 5,Ii 15 (.conv .u64 (Tt 14)),Mv 16 4,Ii 17 (.bin .mul (Nn 32) (Tt 16)),Ii 18 (.conv .u64 (Tt 17)),Ii 19 (.bin .shl (Tt 15) (Tt 18)),Ii 20 (.bin .or (Tt 13) (Tt 19)),Mv 3 20]))) (Oo [Ii 21 (.bin .add (Tt 8) (Nn 1)),Mv 8 21]))))))) (Ss (Oo [Mv 22 3,Mv 2 22]) .ret)))⟩=F)=>F) ?_ ?_;rotate_left;dsimp only[Tt,Nn,Ii,Mv,Lf,Le,Ia,Oo,Ss];exact rfl
theorem code_nat_word:lowerF Tryz.prog 252 = some fn_nat_word:=by kernel_rfl
def fn_nat_small:AFn:=by refine (fun (F:AFn)(_:⟨18,[.t 4],Ss (Oo [Ii 4 (.mov (.const (.slice none 0 0)))]) (Ss (.block 0 (.loop (Ss (Ss (Oo [Mv 5 1,Ii 6 (.bin .neq (Tt 5) (.const (.int .u64 0)))]) (.cond (Tt 6) .skip (.exit 0))) (.block 1 (.ops true [Mv 7 1,Mv 8 0,Mv 9 1,Ii 10 (.bin .rem (Tt 8) (Tt 9)),Mv 0 7,Mv 1 10] []))))) (Ss (Oo [Mv 11 0,Ii 12 (.conv .u32 (Tt 11)),Mv 13 0,Ii 14 (.bin .shr (Tt 13) (.const (.int .u64 32))),Ii 15 (.conv .u32 (Tt 14)),Ii 16 (.rowlit 145 1 2 [.int .u32 0] [(0,Tt 12),(1,Tt 15)]),Ca 17 223 [Tt 16],Mv 4 17]) .ret))⟩=F)=>F) ?_ ?_;rotate_left;dsimp only[Tt,Ii,Mv,Ca,Oo,Ss];exact rfl
theorem code_nat_small:lowerF Tryz.prog 251 = some fn_nat_small:=by kernel_rfl
def fn_nat_Cmp:AFn:=by refine (fun (F:AFn)(_:⟨49,[.t 4],Ss (Oo [Ii 4 (.mov (Nn 0))]) (Ss (Oo [Mv 6 0,Ca 7 241 [Tt 6],Mv 8 1,Ca 9 241 [Tt 8],Mv 0 7,Mv 1 9]) (Ss (.block 0 (Ss (Oo [Mv 11 0,Le 12 11,Mv 13 1,Le 14 13,Ii 15 (.bin .lss (Tt 12) (Tt 14)),Mv 10 15]) (.cond (Tt 10) (Ss (Oo [Ii 4 (.mov (Nn (-1)))]) .ret) (Ss (Oo [Mv 17 0,Le 18 17,Mv 19 1,Le 20 19,Ii 21 (.bin .gtr (Tt 18) (Tt 20)),Mv 16 21]) (.cond (Tt 16) (Ss (Oo [Ii 4 (.mov (Nn 1))]) .ret) .skip))))) (Ss (Ss (Oo [Mv 22 0,Le 23 22,Ii 24 (.bin .sub (Tt 23) (Nn 1)),Mv 5 24]) (.block 1 (.loop (Ss (Ss (Oo [Mv 25 5,Ii 26 (.bin .geq (Tt 25) (Nn 0))]) (.cond (Tt 26) .skip (.exit 1))) (Ss (.block 2 (.block 3 (Ss (.ops true [Mv 30 0,Mv 31 5,Ia 32 1 30 31,Lf 33 32,Mv 34 1,Mv 35 5,Ia 36 1 34 35,Lf 37 36,Ii 38 (.bin .lss (Tt 33) (Tt 37)),Mv 29 38] [(2,6),(3,6),(2,7),(3,7)]) (.cond (Tt 29) (Ss (Oo [Ii 4 (.mov (Nn (-1)))]) .ret) (Ss (.ops true [Mv 40 0,Mv 41 5,Ia 42 1 40 41,Lf 43 42,Mv 44 1,Mv 45 5,Ia 46 1 44 45,Lf 47 46,Ii 48 (.bin .gtr (Tt 43) (Tt 47)),Mv 39 48] [(2,6),(3,6),(2,7),(3,7)]) (.cond (Tt 39) (Ss (Oo [Ii 4 (.mov (Nn 1))]) .ret) .skip)))))) (Oo [Mv 27 5,Ii 28 (.bin .sub (Tt 27) (Nn 1)),Mv 5 28])))))) (Ss (Oo [Ii 4 (.mov (Nn 0))]) .ret))))⟩=F)=>F) ?_ ?_;rotate_left;dsimp only[Tt,Nn,Ii,Mv,Lf,Le,Ia,Ca,Oo,Ss];exact rfl
theorem code_nat_Cmp:lowerF Tryz.prog 226 = some fn_nat_Cmp:=by kernel_rfl
def fn_nat_Add:AFn:=by refine (fun (F:AFn)(_:⟨65,[.t 4],Ss (Oo [Ii 4 (.mov (.const (.slice none 0 0)))]) (Ss (Oo [Mv 9 0,Ca 10 241 [Tt 9],Mv 11 1,Ca 12 241 [Tt 11],Mv 0 10,Mv 1 12]) (Ss (Ss (Oo [Mv 13 0,Le 14 13,Mv 15 1,Le 16 15,Ii 17 (.bin .lss (Tt 14) (Tt 16))]) (.cond (Tt 17) (Oo [Mv 18 1,Mv 19 0,Mv 0 18,Mv 1 19]) .skip)) (Ss (Oo [Mv 20 0,Le 21 20,Mv 22 0,Le 23 22,Ii 24 (.bin .add (Tt 23) (Nn 1)),Ii 25 (.make 145 1 4 [.int .u32 0] (Tt 21) (Tt 24)),Mv 5 25]) (Ss (Oo [Mv 26 5,Mv 27 0,Ii 28 (.copy 1 (Tt 26) (Tt 27))]) (Ss (Oo [Ii 6 (.mov (.const (.int .u32 0)))]) (Ss (Ss (Oo [Mv 29 5,Le 30 29,Ii 31 (.mov (Nn 0))]) (.block 0 (.loop (Ss (Oo [Ii 32 (.bin .lss (Tt 31) (Tt 30))]) (Ss (.cond (Tt 32) .skip (.exit 0)) (Ss (.block 1 (Ss (Oo [Mv 33 31,Mv 7 33]) (Ss (Oo [Ii 8 (.mov (.const (.int .u32 0)))]) (Ss (Ss (Oo [Mv 34 7,Mv 35 1,Le 36 35,Ii 37 (.bin .lss (Tt 34) (Tt 36))]) (.cond (Tt 37) (Oo [Mv 38 1,Mv 39 7,Ia 40 1 38 39,Lf 41 40,Mv 8 41]) (Ss (Oo [Mv 42 6,Ii 43 (.bin .eql (Tt 42) (.const (.int .u32 0)))]) (.cond (Tt 43) (.exit 0) .skip)))) (Oo [Mv 45 5,Mv 46 7,Mv 47 5,Mv 48 7,Ia 49 1 47 48,Lf 50 49,Mv 51 8,Mv 52 6,Ca 53 255 [Tt 50,Tt 51,Tt 52],Mv 44 53,Ex 54 0 44,Ex 55 1 44,Ia 56 1 45 46,Sr 1 56 54,Mv 6 55]))))) (Oo [Ii 57 (.bin .add (Tt 31) (Nn 1)),Mv 31 57]))))))) (Ss (Ss (Oo [Mv 58 6,Ii 59 (.bin .neq (Tt 58) (.const (.int .u32 0)))]) (.cond (Tt 59) (Oo [Mv 60 5,Mv 61 6,Ii 62 (.rowlit 145 1 1 [.int .u32 0] [(0,Tt 61)]),Ii 63 (.append 145 1 4 [.int .u32 0] (Tt 60) (Tt 62)),Mv 5 63]) .skip)) (Ss (Oo [Mv 64 5,Mv 4 64]) .ret))))))))⟩=F)=>F) ?_ ?_;rotate_left;dsimp only[Tt,Nn,Ii,Mv,Lf,Ex,Le,Ia,Sr,Ca,Oo,Ss];exact rfl
theorem code_nat_Add:lowerF Tryz.prog 249 = some fn_nat_Add:=by kernel_rfl
def fn_nat_Sub:AFn:=by refine (fun (F:AFn)(_:⟨49,[.t 4,.t 5],Ss (Oo [Ii 4 (.mov (.const (.slice none 0 0))),Ii 5 (.mov (Bo false))]) (Ss (Ss (Oo [Mv 10 0,Mv 11 1,Ca 12 226 [Tt 10,Tt 11],Ii 13 (.bin .lss (Tt 12) (Nn 0))]) (.cond (Tt 13) (Ss (Oo [Ii 4 (.mov (.const (.slice none 0 0))),Ii 5 (.mov (Bo false))]) .ret) .skip)) (Ss (Oo [Mv 14 0,Ca 15 223 [Tt 14],Mv 16 1,Ca 17 241 [Tt 16],Mv 6 15,Mv 1 17]) (Ss (Oo [Ii 7 (.mov (.const (.int .u32 0)))]) (Ss (Ss (Oo [Mv 18 6,Le 19 18,Ii 20 (.mov (Nn 0))]) (.block 0 (.loop (Ss (Oo [Ii 21 (.bin .lss (Tt 20) (Tt 19))]) (Ss (.cond (Tt 21) .skip (.exit 0)) (Ss (.block 1 (Ss (Oo [Mv 22 20,Mv 8 22]) (Ss (Oo [Ii 9 (.mov (.const (.int .u32 0)))]) (Ss (Ss (Oo [Mv 23 8,Mv 24 1,Le 25 24,Ii 26 (.bin .lss (Tt 23) (Tt 25))]) (.cond (Tt 26) (Oo [Mv 27 1,Mv 28 8,Ia 29 1 27 28,Lf 30 29,Mv 9 30]) (Ss (Oo [Mv 31 7,Ii 32 (.bin .eql (Tt 31) (.const (.int .u32 0)))]) (.cond (Tt 32) (.exit 0) .skip)))) (Oo [Mv 34 6,Mv 35 8,Mv 36 6,Mv 37 8,Ia 38 1 36 37,Lf 39 38,Mv 40 9,Mv 41 7,Ca 42 256 [Tt 39,Tt 40,Tt 41],Mv 33 42,Ex 43 0 33,Ex 44 1 33,Ia 45 1 34 35,Sr 1 45 43,Mv 7 44]))))) (Oo [Ii 46 (.bin .add (Tt 20) (Nn 1)),Mv 20 46]))))))) (Ss (Oo [Mv 47 6,Ca 48 241 [Tt 47],Mv 4 48,Ii 5 (.mov (Bo true))]) .ret)))))⟩=F)=>F) ?_ ?_;rotate_left;dsimp only[Tt,Nn,Bo,Ii,Mv,Lf,Ex,Le,Ia,Sr,Ca,Oo,Ss];exact rfl
theorem code_nat_Sub:lowerF Tryz.prog 250 = some fn_nat_Sub:=by kernel_rfl
def fn_nat_Mul:AFn:=by refine (fun (F:AFn)(_:⟨80,[.t 4],Ss (Oo [Ii 4 (.mov (.const (.slice none 0 0)))]) (Ss (Oo [Mv 12 0,Ca 13 241 [Tt 12],Mv 14 1,Ca 15 241 [Tt 14],Mv 0 13,Mv 1 15]) (Ss (Ss (Oo [Mv 16 0,Le 17 16,Ii 18 (.bin .eql (Tt 17) (Nn 0)),Mv 19 18,Ig 20 19 false (.mov (Tt 1)),Ig 21 19 false (.len (Tt 20)),Ig 22 19 false (.bin .eql (Tt 21) (Nn 0)),Ii 23 (.pick (Tt 19) (Bo true) (Tt 22))]) (.cond (Tt 23) (Ss (Oo [Ii 4 (.mov (.const (.slice none 0 0)))]) .ret) .skip)) (Ss (Oo [Mv 24 0,Le 25 24,Mv 26 1,Le 27 26,Ii 28 (.bin .add (Tt 25) (Tt 27)),Ii 29 (.make 145 1 4 [.int .u32 0] (Tt 28) (Tt 28)),Mv 5 29]) (Ss (Ss (Oo [Mv 30 0,Le 31 30,Ii 32 (.mov (Nn 0))]) (.block 0 (.loop (Ss (Oo [Ii 33 (.bin .lss (Tt 32) (Tt 31))]) (Ss (.cond (Tt 33) .skip (.exit 0)) (Ss (.block 1 (Ss (Oo [Mv 34 32,Ia 35 1 30 32,Lf 36 35,Mv 6 34,Mv 7 36]) (Ss (Oo [Ii 8 (.mov (.const (.int .u64 0)))]) (Ss (Ss (Oo [Mv 37 1,Le 38 37,Ii 39 (.mov (Nn 0))]) (.block 2 (.loop (Ss (Oo [Ii 40 (.bin .lss (Tt 39) (Tt 38))]) (Ss (.cond (Tt 40) .skip (.exit 2)) (Ss (.block 3 (Ss (Oo [Mv 41 39,Ia 42 1 37 39,Lf 43 42,Mv 9 41,Mv 10 43]) (Ss (Oo [Mv 44 7,Ii 45 (.conv .u64 (Tt 44)),Mv 46 10,Ii 47 (.conv .u64 (Tt 46)),Ii 48 (.bin .mul (Tt 45) (Tt 47)),Mv 49 5,Mv 50 6,Mv 51 9,Ii 52 (.bin .add (Tt 50) (Tt 51)),Ia 53 1 49 52,Lf 54 53,Ii 55 (.conv .u64 (Tt 54)),Ii 56 (.bin .add (Tt 48) (Tt 55)),Mv 57 8,Ii 58 (.bin .add (Tt 56) (Tt 57)),Mv 11 58]) (Ss (Oo [Mv 59 5,Mv 60 6,Mv 61 9,Ii 62 (.bin .add (Tt 60) (Tt 61)),Mv 63 11,Ii 64 (.conv .u32 (Tt 63)),Ia 65 1 59 62,Sr 1 65 64]) (Oo [Mv 66 11,Ii 67 (.bin .shr (Tt 66) (.const (.int .u64 32))),Mv 8 67]))))) (Oo [Ii 68 (.bin .add (Tt 39) (Nn 1)),Mv 39 68]))))))) (Oo [Mv 69 5,Mv 70 6,Mv 71 1,Le 72 71,Ii 73 (.bin .add (Tt 70) (Tt 72)),Mv 74 8,Ii 75 (.conv .u32 (Tt 74)),Ia 76 1 69 73,Sr 1 76 75]))))) (Oo [Ii 77 (.bin .add (Tt 32) (Nn 1)),Mv 32 77]))))))) (Ss (Oo [Mv 78 5,Ca 79 241 [Tt 78],Mv 4 79]) .ret)))))⟩=F)=>F) ?_ ?_;rotate_left;dsimp only[Tt,Nn,Bo,Ii,Ig,Mv,Lf,Le,Ia,Sr,Ca,Oo,Ss];exact rfl
theorem code_nat_Mul:lowerF Tryz.prog 227 = some fn_nat_Mul:=by kernel_rfl
def fn_nat_DivMod:AFn:=by refine (fun (F:AFn)(_:⟨50,[.t 4,.t 5,.t 6],Ss (Oo [Ii 4 (.mov (.const (.slice none 0 0))),Ii 5 (.mov (.const (.slice none 0 0))),Ii 6 (.mov (Bo false))]) (Ss (Oo [Mv 11 0,Ca 12 241 [Tt 11],Mv 13 1,Ca 14 241 [Tt 13],Mv 0 12,Mv 1 14]) (Ss (.block 0 (Ss (Oo [Mv 16 1,Le 17 16,Ii 18 (.bin .eql (Tt 17) (Nn 0)),Mv 15 18]) (.cond (Tt 15) (Ss (Oo [Ii 4 (.mov (.const (.slice none 0 0))),Ii 5 (.mov (.const (.slice none 0 0))),Ii 6 (.mov (Bo false))]) .ret) (Ss (Oo [Mv 20 0,Mv 21 1,Ca 22 226 [Tt 20,Tt 21],Ii 23 (.bin .lss (Tt 22) (Nn 0)),Mv 19 23]) (.cond (Tt 19) (Ss (Oo [Mv 24 0,Ca 25 223 [Tt 24],Ii 4 (.mov (.const (.slice none 0 0))),Mv 5 25,Ii 6 (.mov (Bo true))]) .ret) (Ss (Oo [Mv 27 1,Le 28 27,Ii 29 (.bin .eql (Tt 28) (Nn 1)),Mv 26 29]) (.cond (Tt 26) (Ss (Oo [Mv 30 0,Ca 31 223 [Tt 30],Mv 7 31]) (Ss (Oo [Mv 32 7,Mv 33 1,Ii 34 (.iaddr 1 (Tt 33) (Nn 0)),Lf 35 34,Ca 36 253 [Tt 32,Tt 35],Mv 8 36]) (Ss (Oo [Mv 37 7,Ca 38 241 [Tt 37],Mv 39 8,Ii 40 (.rowlit 145 1 1 [.int .u32 0] [(0,Tt 39)]),Ca 41 223 [Tt 40],Mv 4 38,Mv 5 41,Ii 6 (.mov (Bo true))]) .ret))) .skip))))))) (Ss (Oo [Mv 43 0,Mv 44 1,Ca 45 254 [Tt 43,Tt 44],Mv 42 45,Ex 46 0 42,Ex 47 1 42,Mv 9 46,Mv 10 47]) (Ss (Oo [Mv 48 9,Mv 49 10,Mv 4 48,Mv 5 49,Ii 6 (.mov (Bo true))]) .ret))))⟩=F)=>F) ?_ ?_;rotate_left;dsimp only[Tt,Nn,Bo,Ii,Mv,Lf,Ex,Le,Ca,Oo,Ss];exact rfl
theorem code_nat_DivMod:lowerF Tryz.prog 243 = some fn_nat_DivMod:=by kernel_rfl
def fn_nat_shorten:AFn:=by refine (fun (F:AFn)(_:⟨36,[.t 4],Ss (Oo [Ii 4 (.mov (.const (.int .u32 0)))]) (Ss (Oo [Ii 5 (.mov (.const (.int .u64 0)))]) (Ss (Ss (Oo [Mv 7 0,Le 8 7,Ii 9 (.bin .sub (Tt 8) (Nn 1)),Mv 6 9]) (.block 0 (.loop (Ss (Ss (Oo [Mv 10 6,Ii 11 (.bin .geq (Tt 10) (Nn 0))]) (.cond (Tt 11) .skip (.exit 0))) (Ss (.block 1 (Ss (Oo [Mv 14 5,Ii 15 (.bin .shl (Tt 14) (.const (.int .u64 32))),Mv 16 0,Mv 17 6,Ia 18 1 16 17,Lf 19 18,Ii 20 (.conv .u64 (Tt 19)),Ii 21 (.bin .or (Tt 15) (Tt 20)),Mv 5 21]) (Ss (Oo [Mv 22 0,Mv 23 6,Mv 24 5,Mv 25 1,Ii 26 (.conv .u64 (Tt 25)),Ii 27 (.bin .quo (Tt 24) (Tt 26)),Ii 28 (.conv .u32 (Tt 27)),Ia 29 1 22 23,Sr 1 29 28]) (Oo [Mv 30 5,Mv 31 1,Ii 32 (.conv .u64 (Tt 31)),Ii 33 (.bin .rem (Tt 30) (Tt 32)),Mv 5 33])))) (Oo [Mv 12 6,Ii 13 (.bin .sub (Tt 12) (Nn 1)),Mv 6 13])))))) (Ss (Oo [Mv 34 5,Ii 35 (.conv .u32 (Tt 34)),Mv 4 35]) .ret)))⟩=F)=>F) ?_ ?_;rotate_left;dsimp only[Tt,Nn,Ii,Mv,Lf,Le,Ia,Sr,Oo,Ss];exact rfl
theorem code_nat_shorten:lowerF Tryz.prog 253 = some fn_nat_shorten:=by kernel_rfl
def fn_nat_long:AFn:=by refine (fun (F:AFn)(_:⟨84,[.t 4,.t 5],Ss (Oo [Ii 4 (.mov (.const (.slice none 0 0))),Ii 5 (.mov (.const (.slice none 0 0)))]) (Ss (Oo [Mv 13 1,Le 14 13,Mv 6 14]) (Ss (Oo [Mv 15 1,Mv 16 6,Ii 17 (.bin .sub (Tt 16) (Nn 1)),Ia 18 1 15 17,Lf 19 18,Ca 20 257 [Tt 19],Mv 7 20]) (Ss (Oo [Mv 21 1,Mv 22 7,Ca 23 258 [Tt 21,Tt 22],Mv 24 6,Ii 25 (.slice 1 (Tt 23) none (some (Tt 24)) none),Mv 8 25]) (Ss (Oo [Mv 26 0,Mv 27 7,Ca 28 258 [Tt 26,Tt 27],Mv 9 28]) (Ss (Oo [Mv 29 0,Le 30 29,Mv 31 6,Ii 32 (.bin .sub (Tt 30) (Tt 31)),Ii 33 (.bin .add (Tt 32) (Nn 1)),Ii 34 (.make 145 1 4 [.int .u32 0] (Tt 33) (Tt 33)),Mv 10 34]) (Ss (Ss (Oo [Mv 35 10,Le 36 35,Ii 37 (.bin .sub (Tt 36) (Nn 1)),Mv 11 37]) (.block 0 (.loop (Ss (Ss (Oo [Mv 38 11,Ii 39 (.bin .geq (Tt 38) (Nn 0))]) (.cond (Tt 39) .skip (.exit 0))) (Ss (.block 1 (Ss (Oo [Mv 42 9,Mv 43 11,Mv 44 11,Mv 45 6,Ii 46 (.bin .add (Tt 44) (Tt 45)),Ii 47 (.bin .add (Tt 46) (Nn 1)),Ii 48 (.slice 1 (Tt 42) (some (Tt 43)) (some (Tt 47)) none),Mv 49 8,Ca 50 259 [Tt 48,Tt 49],Mv 12 50]) (Ss (Ss (Oo [Mv 51 9,Mv 52 11,Mv 53 11,Mv 54 6,Ii 55 (.bin .add (Tt 53) (Tt 54)),Ii 56 (.bin .add (Tt 55) (Nn 1)),Ii 57 (.slice 1 (Tt 51) (some (Tt 52)) (some (Tt 56)) none),Mv 58 8,Mv 59 12,Ca 60 260 [Tt 57,Tt 58,Tt 59]]) (.cond (Tt 60) (Ss (Oo [Mv 61 12,Ii 62 (.bin .sub (Tt 61) (.const (.int .u64 1))),Mv 12 62]) (Oo [Mv 63 9,Mv 64 11,Mv 65 11,Mv 66 6,Ii 67 (.bin .add (Tt 65) (Tt 66)),Ii 68 (.bin .add (Tt 67) (Nn 1)),Ii 69 (.slice 1 (Tt 63) (some (Tt 64)) (some (Tt 68)) none),Mv 70 8,Ca 71 261 [Tt 69,Tt 70]])) .skip)) (Oo [Mv 72 10,Mv 73 11,Mv 74 12,Ii 75 (.conv .u32 (Tt 74)),Ia 76 1 72 73,Sr 1 76 75])))) (Oo [Mv 40 11,Ii 41 (.bin .sub (Tt 40) (Nn 1)),Mv 11 41])))))) (Ss (.ops true [Mv 77 10,Ca 78 241 [Tt 77],Mv 79 9,Mv 80 6,Ii 81 (.slice 1 (Tt 79) none (some (Tt 80)) none),Mv 82 7,Ca 83 262 [Tt 81,Tt 82],Mv 4 78,Mv 5 83] [(1,4)]) .ret)))))))⟩=F)=>F) ?_ ?_;rotate_left;dsimp only[Tt,Nn,Ii,Mv,Lf,Le,Ia,Sr,Ca,Oo,Ss];exact rfl
theorem code_nat_long:lowerF Tryz.prog 254 = some fn_nat_long:=by kernel_rfl
def fn_whole_Sign:AFn:=by refine (fun (F:AFn)(_:⟨11,[.t 2],Ss (Oo [Ii 1 (.box 160 2 (Tt 0)),Ii 2 (.mov (Nn 0))]) (Ss (.block 0 (Ss (Oo [Fa 4 1 1,Lf 5 4,Ca 6 226 [Tt 5,.const (.slice none 0 0)],Ii 7 (.bin .eql (Tt 6) (Nn 0)),Mv 3 7]) (.cond (Tt 3) (Ss (Oo [Ii 2 (.mov (Nn 0))]) .ret) (Ss (Oo [Fa 9 0 1,Lf 10 9,Mv 8 10]) (.cond (Tt 8) (Ss (Oo [Ii 2 (.mov (Nn (-1)))]) .ret) .skip))))) (Ss (Oo [Ii 2 (.mov (Nn 1))]) .ret))⟩=F)=>F) ?_ ?_;rotate_left;dsimp only[Tt,Nn,Ii,Mv,Lf,Fa,Ca,Oo,Ss];exact rfl
theorem code_whole_Sign:lowerF Tryz.prog 225 = some fn_whole_Sign:=by kernel_rfl
def fn_whole_Cmp:AFn:=by refine (fun (F:AFn)(_:⟨32,[.t 4],Ss (Oo [Ii 2 (.box 160 2 (Tt 0)),Ii 3 (.box 160 2 (Tt 1)),Ii 4 (.mov (Nn 0))]) (Ss (.ops true [Lt 7 2 2,Ca 8 225 [Tt 7],Lt 9 2 3,Ca 10 225 [Tt 9],Mv 5 8,Mv 6 10] [(0,2),(1,2)]) (Ss (.block 0 (Ss (Oo [Mv 12 5,Mv 13 6,Ii 14 (.bin .lss (Tt 12) (Tt 13)),Mv 11 14]) (.cond (Tt 11) (Ss (Oo [Ii 4 (.mov (Nn (-1)))]) .ret) (Ss (Oo [Mv 16 5,Mv 17 6,Ii 18 (.bin .gtr (Tt 16) (Tt 17)),Mv 15 18]) (.cond (Tt 15) (Ss (Oo [Ii 4 (.mov (Nn 1))]) .ret) (Ss (Oo [Mv 20 5,Ii 21 (.bin .lss (Tt 20) (Nn 0)),Mv 19 21]) (.cond (Tt 19) (Ss (Oo [Fa 22 1 3,Lf 23 22,Fa 24 1 2,Lf 25 24,Ca 26 226 [Tt 23,Tt 25],Mv 4 26]) .ret) .skip))))))) (Ss (Oo [Fa 27 1 2,Lf 28 27,Fa 29 1 3,Lf 30 29,Ca 31 226 [Tt 28,Tt 30],Mv 4 31]) .ret)))⟩=F)=>F) ?_ ?_;rotate_left;dsimp only[Tt,Nn,Ii,Mv,Lf,Lt,Fa,Ca,Oo,Ss];exact rfl
theorem code_whole_Cmp:lowerF Tryz.prog 193 = some fn_whole_Cmp:=by kernel_rfl
def fn_whole_Add:AFn:=by refine (fun (F:AFn)(_:⟨47,[.c 4 true 2],Ss (Oo [Ii 2 (.box 160 2 (Tt 0)),Ii 3 (.box 160 2 (Tt 1)),Ii 4 (.alloc 160 [.bool false,.slice none 0 0])]) (Ss (Ss (Oo [Fa 9 0 2,Lf 10 9,Fa 11 0 3,Lf 12 11,Ii 13 (.binB .eql (Tt 10) (Tt 12))]) (.cond (Tt 13) (Ss (.ops true [Fa 14 0 2,Lf 15 14,Fa 16 1 2,Lf 17 16,Fa 18 1 3,Lf 19 18,Ca 20 249 [Tt 17,Tt 19],Ca 21 222 [Tt 15,Tt 20],Sr 2 4 21] [(1,3),(1,5),(3,5),(1,6)]) .ret) .skip)) (Ss (Ss (Oo [Fa 23 1 2,Lf 24 23,Fa 25 1 3,Lf 26 25,Ca 27 250 [Tt 24,Tt 26],Mv 22 27,Ex 28 0 22,Ex 29 1 22,Mv 5 28,Mv 6 29]) (Ss (Oo [Mv 30 6]) (.cond (Tt 30) (Ss (Oo [Fa 31 0 2,Lf 32 31,Mv 33 5,Ca 34 222 [Tt 32,Tt 33],Sr 2 4 34]) .ret) .skip))) (Ss (Oo [Fa 36 1 3,Lf 37 36,Fa 38 1 2,Lf 39 38,Ca 40 250 [Tt 37,Tt 39],Mv 35 40,Ex 41 0 35,Ex 42 1 35,Mv 7 41,Mv 8 42]) (Ss (Oo [Fa 43 0 3,Lf 44 43,Mv 45 7,Ca 46 222 [Tt 44,Tt 45],Sr 2 4 46]) .ret))))⟩=F)=>F) ?_ ?_;rotate_left;dsimp only[Tt,Ii,Mv,Lf,Fa,Ex,Sr,Ca,Oo,Ss];exact rfl
theorem code_whole_Add:lowerF Tryz.prog 238 = some fn_whole_Add:=by kernel_rfl
def fn_whole_Sub:AFn:=by refine (fun (F:AFn)(_:⟨13,[.c 4 true 2],Ss (Oo [Ii 2 (.box 160 2 (Tt 0)),Ii 3 (.box 160 2 (Tt 1)),Ii 4 (.alloc 160 [.bool false,.slice none 0 0])]) (Ss (Oo [Lt 5 2 2,Fa 6 0 3,Lf 7 6,Ii 8 (.un .not (Tt 7)),Fa 9 1 3,Lf 10 9,Ii 11 (.build [.bool false,.slice none 0 0] [(0,1,Tt 8),(1,1,Tt 10)]),Ca 12 238 [Tt 5,Tt 11],Sr 2 4 12]) .ret)⟩=F)=>F) ?_ ?_;rotate_left;dsimp only[Tt,Ii,Lf,Lt,Fa,Sr,Ca,Oo,Ss];exact rfl
theorem code_whole_Sub:lowerF Tryz.prog 244 = some fn_whole_Sub:=by kernel_rfl
def fn_whole_Mul:AFn:=by refine (fun (F:AFn)(_:⟨16,[.c 4 true 2],Ss (Oo [Ii 2 (.box 160 2 (Tt 0)),Ii 3 (.box 160 2 (Tt 1)),Ii 4 (.alloc 160 [.bool false,.slice none 0 0])]) (Ss (.ops true [Fa 5 0 2,Lf 6 5,Fa 7 0 3,Lf 8 7,Ii 9 (.binB .neq (Tt 6) (Tt 8)),Fa 10 1 2,Lf 11 10,Fa 12 1 3,Lf 13 12,Ca 14 227 [Tt 11,Tt 13],Ca 15 222 [Tt 9,Tt 14],Sr 2 4 15] [(1,3),(1,6),(3,6),(1,8),(3,8),(6,8),(1,9),(3,9)]) .ret)⟩=F)=>F) ?_ ?_;rotate_left;dsimp only[Tt,Ii,Lf,Fa,Sr,Ca,Oo,Ss];exact rfl
theorem code_whole_Mul:lowerF Tryz.prog 194 = some fn_whole_Mul:=by kernel_rfl
def fn_whole_DivMod:AFn:=by refine (fun (F:AFn)(_:⟨54,[.c 4 true 2,.c 5 true 2,.t 6],Ss (Oo [Ii 2 (.box 160 2 (Tt 0)),Ii 3 (.box 160 2 (Tt 1)),Ii 4 (.alloc 160 [.bool false,.slice none 0 0]),Ii 5 (.alloc 160 [.bool false,.slice none 0 0]),Ii 6 (.mov (Bo false))]) (Ss (Oo [Fa 13 1 2,Lf 14 13,Fa 15 1 3,Lf 16 15,Ca 17 243 [Tt 14,Tt 16],Mv 12 17,Ex 18 0 12,Ex 19 1 12,Ex 20 2 12,Mv 7 18,Mv 8 19,Mv 9 20]) (Ss (Ss (Oo [Mv 21 9,Ii 22 (.un .not (Tt 21))]) (.cond (Tt 22) (Ss (Oo [Ii 23 (.build [.bool false,.slice none 0 0] []),Ii 24 (.build [.bool false,.slice none 0 0] []),Sr 2 4 23,Sr 2 5 24,Ii 6 (.mov (Bo false))]) .ret) .skip)) (Ss (.ops true [Fa 25 0 2,Lf 26 25,Fa 27 0 3,Lf 28 27,Ii 29 (.binB .neq (Tt 26) (Tt 28)),Mv 30 7,Ca 31 222 [Tt 29,Tt 30],Fa 32 0 2,Lf 33 32,Mv 34 8,Ca 35 222 [Tt 33,Tt 34],Ii 10 (.alloc 160 [.bool false,.slice none 0 0]),Ii 11 (.alloc 160 [.bool false,.slice none 0 0]),Sr 2 10 31,Sr 2 11 35] [(1,3),(1,8),(3,8),(6,8),(1,11),(3,11),(6,11),(8,11),(10,11),(1,12),(3,12),(6,12),(8,12),(10,12),(11,12)]) (Ss (Ss (Oo [Fa 36 0 2,Lf 37 36,Fa 38 0 3,Lf 39 38,Ii 40 (.binB .neq (Tt 37) (Tt 39)),Mv 41 40,Ig 42 41 true (.mov (Tt 8)),Ig 43 41 true (.len (Tt 42)),Ig 44 41 true (.bin .gtr (Tt 43) (Nn 0)),Ii 45 (.pick (Tt 41) (Tt 44) (Bo false))]) (.cond (Tt 45) (.ops true [Lt 46 2 10,Ca 47 186 [Nn 1],Ca 48 244 [Tt 46,Tt 47],Lt 49 2 11,Lt 50 2 3,Ca 51 238 [Tt 49,Tt 50],Sr 2 10 48,Sr 2 11 51] [(0,1),(0,3),(1,3),(2,3),(0,4),(1,4),(2,4),(3,4)]) .skip)) (Ss (.ops true [Lt 52 2 10,Lt 53 2 11,Sr 2 4 52,Sr 2 5 53,Ii 6 (.mov (Bo true))] [(0,1),(1,2)]) .ret)))))⟩=F)=>F) ?_ ?_;rotate_left;dsimp only[Tt,Nn,Bo,Ii,Ig,Mv,Lf,Lt,Fa,Ex,Sr,Ca,Oo,Ss];exact rfl
theorem code_whole_DivMod:lowerF Tryz.prog 230 = some fn_whole_DivMod:=by kernel_rfl
def fn_whole_Pow:AFn:=by refine (fun (F:AFn)(_:⟨40,[.c 4 true 2,.t 5],Ss (Oo [Ii 2 (.box 160 2 (Tt 0)),Ii 4 (.alloc 160 [.bool false,.slice none 0 0]),Ii 5 (.mov (Nn 0))]) (Ss (Ss (Oo [Mv 8 1,Ii 9 (.bin .lss (Tt 8) (Nn 0))]) (.cond (Tt 9) (Ss (Oo [Ii 10 (.build [.bool false,.slice none 0 0] []),Sr 2 4 10,Ii 5 (.mov (Nn 3))]) .ret) .skip)) (Ss (.ops true [Ca 11 186 [Nn 1],Lt 12 2 2,Ca 13 211 [Tt 12],Ii 6 (.alloc 160 [.bool false,.slice none 0 0]),Ii 7 (.alloc 160 [.bool false,.slice none 0 0]),Sr 2 6 11,Sr 2 7 13] [(0,1),(0,3),(1,3),(2,3),(0,4),(1,4),(2,4),(3,4)]) (Ss (.block 0 (.loop (Ss (Ss (Oo [Mv 14 1,Ii 15 (.bin .gtr (Tt 14) (Nn 0))]) (.cond (Tt 15) .skip (.exit 0))) (.block 1 (Ss (Ss (Oo [Fa 16 1 7,Lf 17 16,Le 18 17,Ii 19 (.bin .gtr (Tt 18) (Nn 32))]) (.cond (Tt 19) (Ss (Oo [Ii 20 (.build [.bool false,.slice none 0 0] []),Sr 2 4 20,Ii 5 (.mov (Nn 7))]) .ret) .skip)) (Ss (Ss (Oo [Mv 21 1,Ii 22 (.bin .and (Tt 21) (Nn 1)),Ii 23 (.bin .eql (Tt 22) (Nn 1))]) (.cond (Tt 23) (Oo [Lt 24 2 6,Lt 25 2 7,Ca 26 194 [Tt 24,Tt 25],Sr 2 6 26]) .skip)) (Ss (Ss (Oo [Fa 27 1 6,Lf 28 27,Le 29 28,Ii 30 (.bin .gtr (Tt 29) (Nn 32))]) (.cond (Tt 30) (Ss (Oo [Ii 31 (.build [.bool false,.slice none 0 0] []),Sr 2 4 31,Ii 5 (.mov (Nn 7))]) .ret) .skip)) (Ss (Oo [Mv 32 1,Ii 33 (.bin .shr (Tt 32) (.const (.int .u64 1))),Mv 1 33]) (Ss (Oo [Mv 34 1,Ii 35 (.bin .gtr (Tt 34) (Nn 0))]) (.cond (Tt 35) (Oo [Lt 36 2 7,Lt 37 2 7,Ca 38 194 [Tt 36,Tt 37],Sr 2 7 38]) .skip)))))))))) (Ss (Oo [Lt 39 2 6,Sr 2 4 39,Ii 5 (.mov (Nn 0))]) .ret))))⟩=F)=>F) ?_ ?_;rotate_left;dsimp only[Tt,Nn,Ii,Mv,Lf,Lt,Fa,Le,Sr,Ca,Oo,Ss];exact rfl
theorem code_whole_Pow:lowerF Tryz.prog 239 = some fn_whole_Pow:=by kernel_rfl
def fn_ratio_bot:AFn:=by refine (fun (F:AFn)(_:⟨6,[.c 2 true 2],Ss (Oo [Ii 1 (.box 51 3 (Tt 0)),Ii 2 (.alloc 160 [.bool false,.slice none 0 0])]) (Ss (Oo [Fa 3 2 1,Lf 4 3,Ii 5 (.build [.bool false,.slice none 0 0] [(1,1,Tt 4)]),Sr 2 2 5]) .ret)⟩=F)=>F) ?_ ?_;rotate_left;dsimp only[Tt,Ii,Lf,Fa,Sr,Oo,Ss];exact rfl
theorem code_ratio_bot:lowerF Tryz.prog 195 = some fn_ratio_bot:=by kernel_rfl
def fn_ratio_Make:AFn:=by refine (fun (F:AFn)(_:⟨64,[.c 4 true 3,.t 5],Ss (Oo [Ii 2 (.box 160 2 (Tt 0)),Ii 3 (.box 160 2 (Tt 1)),Ii 4 (.alloc 51 [.bool false,.slice none 0 0,.slice none 0 0]),Ii 5 (.mov (Nn 0))]) (Ss (.ops true [Fa 9 1 2,Lf 10 9,Ca 11 223 [Tt 10],Fa 12 1 3,Lf 13 12,Ca 14 223 [Tt 13],Mv 6 11,Mv 7 14] [(1,4),(2,4)]) (Ss (Ss (Oo [Mv 15 7,Le 16 15,Ii 17 (.bin .eql (Tt 16) (Nn 0))]) (.cond (Tt 17) (Ss (Oo [Ii 18 (.build [.bool false,.slice none 0 0,.slice none 0 0] []),Sr 3 4 18,Ii 5 (.mov (Nn 3))]) .ret) .skip)) (Ss (Ss (Oo [Mv 19 7,Ca 20 175 [Tt 19],Ii 21 (.un .not (Tt 20))]) (.cond (Tt 21) (Ss (Oo [Mv 22 6,Mv 23 7,Ca 24 240 [Tt 22,Tt 23],Mv 8 24]) (Ss (Oo [Mv 25 8,Ca 26 175 [Tt 25],Ii 27 (.un .not (Tt 26))]) (.cond (Tt 27) (Ss (Oo [Mv 29 6,Mv 30 8,Ca 31 243 [Tt 29,Tt 30],Mv 28 31,Ex 32 0 28,Ex 33 1 28,Ex 34 2 28,Mv 6 32]) (Oo [Mv 36 7,Mv 37 8,Ca 38 243 [Tt 36,Tt 37],Mv 35 38,Ex 39 0 35,Ex 40 1 35,Ex 41 2 35,Mv 7 39])) .skip))) .skip)) (Ss (Ss (Oo [Mv 42 6,Le 43 42,Ii 44 (.bin .gtr (Tt 43) (Nn 32)),Mv 45 44,Ig 46 45 false (.mov (Tt 7)),Ig 47 45 false (.len (Tt 46)),Ig 48 45 false (.bin .gtr (Tt 47) (Nn 32)),Ii 49 (.pick (Tt 45) (Bo true) (Tt 48))]) (.cond (Tt 49) (Ss (Oo [Ii 50 (.build [.bool false,.slice none 0 0,.slice none 0 0] []),Sr 3 4 50,Ii 5 (.mov (Nn 7))]) .ret) .skip)) (Ss (Oo [Mv 51 6,Le 52 51,Ii 53 (.bin .gtr (Tt 52) (Nn 0)),Mv 54 53,Ig 55 54 true (.faddr 0 (Tt 2)),Ig 56 54 true (.load false 1 (Tt 55)),Ig 57 54 true (.faddr 0 (Tt 3)),Ig 58 54 true (.load false 1 (Tt 57)),Ig 59 54 true (.binB .neq (Tt 56) (Tt 58)),Ii 60 (.pick (Tt 54) (Tt 59) (Bo false)),Mv 61 6,Mv 62 7,Ii 63 (.build [.bool false,.slice none 0 0,.slice none 0 0] [(0,1,Tt 60),(1,1,Tt 61),(2,1,Tt 62)]),Sr 3 4 63,Ii 5 (.mov (Nn 0))]) .ret)))))⟩=F)=>F) ?_ ?_;rotate_left;dsimp only[Tt,Nn,Bo,Ii,Ig,Mv,Lf,Fa,Ex,Le,Sr,Ca,Oo,Ss];exact rfl
theorem code_ratio_Make:lowerF Tryz.prog 229 = some fn_ratio_Make:=by kernel_rfl
def fn_ratio_copied:AFn:=by refine (fun (F:AFn)(_:⟨22,[.c 4 true 3],Ss (Oo [Ii 3 (.box 51 3 (Tt 1)),Ii 4 (.alloc 51 [.bool false,.slice none 0 0,.slice none 0 0])]) (Ss (.ops true [Fa 7 1 3,Lf 8 7,Ca 9 223 [Tt 8],Fa 10 2 3,Lf 11 10,Ca 12 223 [Tt 11],Mv 5 9,Mv 6 12] [(1,4),(2,4)]) (Ss (Oo [Mv 13 0,Mv 14 13,Ig 15 14 true (.mov (Tt 5)),Ig 16 14 true (.len (Tt 15)),Ig 17 14 true (.bin .gtr (Tt 16) (Nn 0)),Ii 18 (.pick (Tt 14) (Tt 17) (Bo false)),Mv 19 5,Mv 20 6,Ii 21 (.build [.bool false,.slice none 0 0,.slice none 0 0] [(0,1,Tt 18),(1,1,Tt 19),(2,1,Tt 20)]),Sr 3 4 21]) .ret))⟩=F)=>F) ?_ ?_;rotate_left;dsimp only[Tt,Nn,Bo,Ii,Ig,Mv,Lf,Fa,Sr,Ca,Oo,Ss];exact rfl
theorem code_ratio_copied:lowerF Tryz.prog 228 = some fn_ratio_copied:=by kernel_rfl
def fn_ratio_Neg:AFn:=by refine (fun (F:AFn)(_:⟨8,[.c 2 true 3],Ss (Oo [Ii 1 (.box 51 3 (Tt 0)),Ii 2 (.alloc 51 [.bool false,.slice none 0 0,.slice none 0 0])]) (Ss (Oo [Fa 3 0 1,Lf 4 3,Ii 5 (.un .not (Tt 4)),Lt 6 3 1,Ca 7 228 [Tt 5,Tt 6],Sr 3 2 7]) .ret)⟩=F)=>F) ?_ ?_;rotate_left;dsimp only[Tt,Ii,Lf,Lt,Fa,Sr,Ca,Oo,Ss];exact rfl
theorem code_ratio_Neg:lowerF Tryz.prog 198 = some fn_ratio_Neg:=by kernel_rfl
def fn_ratio_Sign:AFn:=by refine (fun (F:AFn)(_:⟨6,[.t 2],Ss (Oo [Ii 1 (.box 51 3 (Tt 0)),Ii 2 (.mov (Nn 0))]) (Ss (Oo [Lt 3 3 1,Ca 4 177 [Tt 3],Ca 5 225 [Tt 4],Mv 2 5]) .ret)⟩=F)=>F) ?_ ?_;rotate_left;dsimp only[Tt,Nn,Ii,Mv,Lt,Ca,Oo,Ss];exact rfl
theorem code_ratio_Sign:lowerF Tryz.prog 199 = some fn_ratio_Sign:=by kernel_rfl
def fn_ratio_Cmp:AFn:=by refine (fun (F:AFn)(_:⟨29,[.t 4],Ss (Oo [Ii 2 (.box 51 3 (Tt 0)),Ii 3 (.box 51 3 (Tt 1)),Ii 4 (.mov (Nn 0))]) (Ss (Ss (Oo [Fa 5 2 2,Lf 6 5,Ca 7 175 [Tt 6],Mv 8 7,Ig 9 8 true (.faddr 2 (Tt 3)),Ig 10 8 true (.load false 1 (Tt 9)),Ig 11 8 true (.call (.func 175) [Tt 10]),Ii 12 (.pick (Tt 8) (Tt 11) (Bo false))]) (.cond (Tt 12) (Ss (.ops true [Lt 13 3 2,Ca 14 177 [Tt 13],Lt 15 3 3,Ca 16 177 [Tt 15],Ca 17 193 [Tt 14,Tt 16],Mv 4 17] [(0,2),(1,2)]) .ret) .skip)) (Ss (.ops true [Lt 18 3 2,Ca 19 177 [Tt 18],Lt 20 3 3,Ca 21 195 [Tt 20],Ca 22 194 [Tt 19,Tt 21],Lt 23 3 3,Ca 24 177 [Tt 23],Lt 25 3 2,Ca 26 195 [Tt 25],Ca 27 194 [Tt 24,Tt 26],Ca 28 193 [Tt 22,Tt 27],Mv 4 28] [(0,2),(1,2),(0,5),(1,5),(2,5),(3,5),(4,5),(0,7),(1,7),(2,7),(3,7),(4,7),(5,7),(6,7)]) .ret))⟩=F)=>F) ?_ ?_;rotate_left;dsimp only[Tt,Nn,Bo,Ii,Ig,Mv,Lf,Lt,Fa,Ca,Oo,Ss];exact rfl
theorem code_ratio_Cmp:lowerF Tryz.prog 163 = some fn_ratio_Cmp:=by kernel_rfl
def fn_ratio_Add:AFn:=by refine (fun (F:AFn)(_:⟨27,[.c 4 true 3,.t 5],Ss (Oo [Ii 2 (.box 51 3 (Tt 0)),Ii 3 (.box 51 3 (Tt 1)),Ii 4 (.alloc 51 [.bool false,.slice none 0 0,.slice none 0 0]),Ii 5 (.mov (Nn 0))]) (Ss (.ops true [Lt 7 3 2,Ca 8 177 [Tt 7],Lt 9 3 3,Ca 10 195 [Tt 9],Ca 11 194 [Tt 8,Tt 10],Lt 12 3 3,Ca 13 177 [Tt 12],Lt 14 3 2,Ca 15 195 [Tt 14],Ca 16 194 [Tt 13,Tt 15],Ca 17 238 [Tt 11,Tt 16],Ii 6 (.alloc 160 [.bool false,.slice none 0 0]),Sr 2 6 17] [(0,2),(1,2),(0,5),(1,5),(2,5),(3,5),(4,5),(0,7),(1,7),(2,7),(3,7),(4,7),(5,7),(6,7),(0,11),(1,11),(2,11),(3,11),(4,11),(5,11),(6,11),(7,11),(8,11),(9,11),(10,11)]) (Ss (.ops true [Lt 18 2 6,Lt 19 3 2,Ca 20 195 [Tt 19],Lt 21 3 3,Ca 22 195 [Tt 21],Ca 23 194 [Tt 20,Tt 22],Ca 24 229 [Tt 18,Tt 23],Ex 25 0 24,Ex 26 1 24,Sr 3 4 25,Mv 5 26] [(0,1),(0,2),(0,3),(1,3),(2,3),(0,4),(0,5)]) .ret))⟩=F)=>F) ?_ ?_;rotate_left;dsimp only[Tt,Nn,Ii,Mv,Lt,Ex,Sr,Ca,Oo,Ss];exact rfl
theorem code_ratio_Add:lowerF Tryz.prog 214 = some fn_ratio_Add:=by kernel_rfl
def fn_ratio_Sub:AFn:=by refine (fun (F:AFn)(_:⟨12,[.c 4 true 3,.t 5],Ss (Oo [Ii 2 (.box 51 3 (Tt 0)),Ii 3 (.box 51 3 (Tt 1)),Ii 4 (.alloc 51 [.bool false,.slice none 0 0,.slice none 0 0]),Ii 5 (.mov (Nn 0))]) (Ss (.ops true [Lt 6 3 2,Lt 7 3 3,Ca 8 198 [Tt 7],Ca 9 214 [Tt 6,Tt 8],Ex 10 0 9,Ex 11 1 9,Sr 3 4 10,Mv 5 11] [(0,1),(0,2)]) .ret)⟩=F)=>F) ?_ ?_;rotate_left;dsimp only[Tt,Nn,Ii,Mv,Lt,Ex,Sr,Ca,Oo,Ss];exact rfl
theorem code_ratio_Sub:lowerF Tryz.prog 215 = some fn_ratio_Sub:=by kernel_rfl
def fn_ratio_Mul:AFn:=by refine (fun (F:AFn)(_:⟨19,[.c 4 true 3,.t 5],Ss (Oo [Ii 2 (.box 51 3 (Tt 0)),Ii 3 (.box 51 3 (Tt 1)),Ii 4 (.alloc 51 [.bool false,.slice none 0 0,.slice none 0 0]),Ii 5 (.mov (Nn 0))]) (Ss (.ops true [Lt 6 3 2,Ca 7 177 [Tt 6],Lt 8 3 3,Ca 9 177 [Tt 8],Ca 10 194 [Tt 7,Tt 9],Lt 11 3 2,Ca 12 195 [Tt 11],Lt 13 3 3,Ca 14 195 [Tt 13],Ca 15 194 [Tt 12,Tt 14],Ca 16 229 [Tt 10,Tt 15],Ex 17 0 16,Ex 18 1 16,Sr 3 4 17,Mv 5 18] [(0,2),(1,2),(0,5),(1,5),(2,5),(3,5),(4,5),(0,7),(1,7),(2,7),(3,7),(4,7),(5,7),(6,7)]) .ret)⟩=F)=>F) ?_ ?_;rotate_left;dsimp only[Tt,Nn,Ii,Mv,Lt,Ex,Sr,Ca,Oo,Ss];exact rfl
theorem code_ratio_Mul:lowerF Tryz.prog 216 = some fn_ratio_Mul:=by kernel_rfl
def fn_ratio_Div:AFn:=by refine (fun (F:AFn)(_:⟨19,[.c 4 true 3,.t 5],Ss (Oo [Ii 2 (.box 51 3 (Tt 0)),Ii 3 (.box 51 3 (Tt 1)),Ii 4 (.alloc 51 [.bool false,.slice none 0 0,.slice none 0 0]),Ii 5 (.mov (Nn 0))]) (Ss (.ops true [Lt 6 3 2,Ca 7 177 [Tt 6],Lt 8 3 3,Ca 9 195 [Tt 8],Ca 10 194 [Tt 7,Tt 9],Lt 11 3 2,Ca 12 195 [Tt 11],Lt 13 3 3,Ca 14 177 [Tt 13],Ca 15 194 [Tt 12,Tt 14],Ca 16 229 [Tt 10,Tt 15],Ex 17 0 16,Ex 18 1 16,Sr 3 4 17,Mv 5 18] [(0,2),(1,2),(0,5),(1,5),(2,5),(3,5),(4,5),(0,7),(1,7),(2,7),(3,7),(4,7),(5,7),(6,7)]) .ret)⟩=F)=>F) ?_ ?_;rotate_left;dsimp only[Tt,Nn,Ii,Mv,Lt,Ex,Sr,Ca,Oo,Ss];exact rfl
theorem code_ratio_Div:lowerF Tryz.prog 200 = some fn_ratio_Div:=by kernel_rfl
def fn_ratio_Floor:AFn:=by refine (fun (F:AFn)(_:⟨17,[.c 2 true 3],Ss (Oo [Ii 1 (.box 51 3 (Tt 0)),Ii 2 (.alloc 51 [.bool false,.slice none 0 0,.slice none 0 0])]) (Ss (.ops true [Lt 7 3 1,Ca 8 177 [Tt 7],Lt 9 3 1,Ca 10 195 [Tt 9],Ca 11 230 [Tt 8,Tt 10],Mv 6 11,Ex 12 0 6,Ex 13 1 6,Ex 14 2 6,Ii 3 (.alloc 160 [.bool false,.slice none 0 0]),Ii 4 (.alloc 160 [.bool false,.slice none 0 0]),Sr 2 3 12,Sr 2 4 13,Mv 5 14] [(0,2),(1,2),(0,9),(1,9),(2,9),(3,9),(4,9),(0,10),(1,10),(2,10),(3,10),(4,10),(9,10)]) (Ss (Oo [Lt 15 2 3,Ca 16 185 [Tt 15],Sr 3 2 16]) .ret))⟩=F)=>F) ?_ ?_;rotate_left;dsimp only[Tt,Ii,Mv,Lt,Ex,Sr,Ca,Oo,Ss];exact rfl
theorem code_ratio_Floor:lowerF Tryz.prog 202 = some fn_ratio_Floor:=by kernel_rfl
def fn_ratio_Mod:AFn:=by refine (fun (F:AFn)(_:⟨42,[.c 4 true 3,.t 5],Ss (Oo [Ii 2 (.box 51 3 (Tt 0)),Ii 3 (.box 51 3 (Tt 1)),Ii 4 (.alloc 51 [.bool false,.slice none 0 0,.slice none 0 0]),Ii 5 (.mov (Nn 0))]) (Ss (Ss (Oo [Lt 9 3 2,Ca 10 199 [Tt 9],Ii 11 (.bin .eql (Tt 10) (Nn 0))]) (.cond (Tt 11) (Ss (Oo [Fa 12 0 3,Lf 13 12,Lt 14 3 3,Ca 15 228 [Tt 13,Tt 14],Sr 3 4 15,Ii 5 (.mov (Nn 0))]) .ret) .skip)) (Ss (Oo [Lt 17 3 3,Lt 18 3 2,Ca 19 200 [Tt 17,Tt 18],Mv 16 19,Ex 20 0 16,Ex 21 1 16,Ii 6 (.alloc 51 [.bool false,.slice none 0 0,.slice none 0 0]),Sr 3 6 20,Mv 7 21]) (Ss (Ss (Oo [Mv 22 7,Ii 23 (.bin .neq (Tt 22) (Nn 0))]) (.cond (Tt 23) (Ss (Oo [Ii 24 (.build [.bool false,.slice none 0 0,.slice none 0 0] []),Mv 25 7,Sr 3 4 24,Mv 5 25]) .ret) .skip)) (Ss (.ops true [Lt 27 3 2,Lt 28 3 6,Ca 29 202 [Tt 28],Ca 30 216 [Tt 27,Tt 29],Mv 26 30,Ex 31 0 26,Ex 32 1 26,Ii 8 (.alloc 51 [.bool false,.slice none 0 0,.slice none 0 0]),Sr 3 8 31,Mv 7 32] [(0,1),(0,2),(0,7),(1,7),(2,7),(3,7)]) (Ss (Ss (Oo [Mv 33 7,Ii 34 (.bin .neq (Tt 33) (Nn 0))]) (.cond (Tt 34) (Ss (Oo [Ii 35 (.build [.bool false,.slice none 0 0,.slice none 0 0] []),Mv 36 7,Sr 3 4 35,Mv 5 36]) .ret) .skip)) (Ss (Oo [Lt 37 3 3,Lt 38 3 8,Ca 39 215 [Tt 37,Tt 38],Ex 40 0 39,Ex 41 1 39,Sr 3 4 40,Mv 5 41]) .ret))))))⟩=F)=>F) ?_ ?_;rotate_left;dsimp only[Tt,Nn,Ii,Mv,Lf,Lt,Fa,Ex,Sr,Ca,Oo,Ss];exact rfl
theorem code_ratio_Mod:lowerF Tryz.prog 217 = some fn_ratio_Mod:=by kernel_rfl
def fn_ratio_Pow:AFn:=by refine (fun (F:AFn)(_:⟨54,[.c 4 true 3,.t 5],Ss (Oo [Ii 2 (.box 51 3 (Tt 0)),Ii 4 (.alloc 51 [.bool false,.slice none 0 0,.slice none 0 0]),Ii 5 (.mov (Nn 0))]) (Ss (.ops true [Lt 11 3 2,Ca 12 177 [Tt 11],Lt 13 3 2,Ca 14 195 [Tt 13],Ii 6 (.alloc 160 [.bool false,.slice none 0 0]),Ii 7 (.alloc 160 [.bool false,.slice none 0 0]),Sr 2 6 12,Sr 2 7 14] [(0,2),(1,2),(0,4),(1,4),(2,4),(3,4),(0,5),(1,5),(2,5),(3,5),(4,5)]) (Ss (Ss (Oo [Mv 15 1,Ii 16 (.bin .lss (Tt 15) (Nn 0))]) (.cond (Tt 16) (Ss (Ss (Oo [Lt 17 2 6,Ca 18 225 [Tt 17],Ii 19 (.bin .eql (Tt 18) (Nn 0)),Mv 20 19,Ig 21 20 false (.mov (Tt 1)),Ig 22 20 false (.bin .eql (Tt 21) (Nn (-9223372036854775808))),Ii 23 (.pick (Tt 20) (Bo true) (Tt 22))]) (.cond (Tt 23) (Ss (Oo [Ii 24 (.build [.bool false,.slice none 0 0,.slice none 0 0] []),Sr 3 4 24,Ii 5 (.mov (Nn 3))]) .ret) .skip)) (Oo [Lt 25 2 7,Lt 26 2 6,Mv 27 1,Ii 28 (.un .neg (Tt 27)),Sr 2 6 25,Sr 2 7 26,Mv 1 28])) .skip)) (Ss (Oo [Lt 30 2 6,Mv 31 1,Ca 32 239 [Tt 30,Tt 31],Mv 29 32,Ex 33 0 29,Ex 34 1 29,Ii 8 (.alloc 160 [.bool false,.slice none 0 0]),Sr 2 8 33,Mv 9 34]) (Ss (Ss (Oo [Mv 35 9,Ii 36 (.bin .neq (Tt 35) (Nn 0))]) (.cond (Tt 36) (Ss (Oo [Ii 37 (.build [.bool false,.slice none 0 0,.slice none 0 0] []),Mv 38 9,Sr 3 4 37,Mv 5 38]) .ret) .skip)) (Ss (Oo [Lt 40 2 7,Mv 41 1,Ca 42 239 [Tt 40,Tt 41],Mv 39 42,Ex 43 0 39,Ex 44 1 39,Ii 10 (.alloc 160 [.bool false,.slice none 0 0]),Sr 2 10 43,Mv 9 44]) (Ss (Ss (Oo [Mv 45 9,Ii 46 (.bin .neq (Tt 45) (Nn 0))]) (.cond (Tt 46) (Ss (Oo [Ii 47 (.build [.bool false,.slice none 0 0,.slice none 0 0] []),Mv 48 9,Sr 3 4 47,Mv 5 48]) .ret) .skip)) (Ss (Oo [Lt 49 2 8,Lt 50 2 10,Ca 51 229 [Tt 49,Tt 50],Ex 52 0 51,Ex 53 1 51,Sr 3 4 52,Mv 5 53]) .ret)))))))⟩=F)=>F) ?_ ?_;rotate_left;dsimp only[Tt,Nn,Bo,Ii,Ig,Mv,Lt,Ex,Sr,Ca,Oo,Ss];exact rfl
theorem code_ratio_Pow:lowerF Tryz.prog 218 = some fn_ratio_Pow:=by kernel_rfl
def fn_ratio_Gcd:AFn:=by refine (fun (F:AFn)(_:⟨24,[.c 4 true 3,.t 5],Ss (Oo [Ii 2 (.box 51 3 (Tt 0)),Ii 3 (.box 51 3 (Tt 1)),Ii 4 (.alloc 51 [.bool false,.slice none 0 0,.slice none 0 0]),Ii 5 (.mov (Nn 0))]) (Ss (Ss (Oo [Fa 6 2 2,Lf 7 6,Ca 8 175 [Tt 7],Ii 9 (.un .not (Tt 8)),Mv 10 9,Ig 11 10 false (.faddr 2 (Tt 3)),Ig 12 10 false (.load false 1 (Tt 11)),Ig 13 10 false (.call (.func 175) [Tt 12]),Ig 14 10 false (.un .not (Tt 13)),Ii 15 (.pick (Tt 10) (Bo true) (Tt 14))]) (.cond (Tt 15) (Ss (Oo [Ii 16 (.build [.bool false,.slice none 0 0,.slice none 0 0] []),Sr 3 4 16,Ii 5 (.mov (Nn 3))]) .ret) .skip)) (Ss (Oo [Fa 17 1 2,Lf 18 17,Fa 19 1 3,Lf 20 19,Ca 21 240 [Tt 18,Tt 20],Ii 22 (.build [.bool false,.slice none 0 0] [(1,1,Tt 21)]),Ca 23 185 [Tt 22],Sr 3 4 23,Ii 5 (.mov (Nn 0))]) .ret))⟩=F)=>F) ?_ ?_;rotate_left;dsimp only[Tt,Nn,Bo,Ii,Ig,Mv,Lf,Fa,Sr,Ca,Oo,Ss];exact rfl
theorem code_ratio_Gcd:lowerF Tryz.prog 220 = some fn_ratio_Gcd:=by kernel_rfl
def fn_ratio_Lcm:AFn:=by refine (fun (F:AFn)(_:⟨38,[.c 4 true 3,.t 5],Ss (Oo [Ii 2 (.box 51 3 (Tt 0)),Ii 3 (.box 51 3 (Tt 1)),Ii 4 (.alloc 51 [.bool false,.slice none 0 0,.slice none 0 0]),Ii 5 (.mov (Nn 0))]) (Ss (Oo [Lt 10 3 2,Lt 11 3 3,Ca 12 220 [Tt 10,Tt 11],Mv 9 12,Ex 13 0 9,Ex 14 1 9,Ii 6 (.alloc 51 [.bool false,.slice none 0 0,.slice none 0 0]),Sr 3 6 13,Mv 7 14]) (Ss (Ss (Oo [Mv 15 7,Ii 16 (.bin .neq (Tt 15) (Nn 0))]) (.cond (Tt 16) (Ss (Oo [Ii 17 (.build [.bool false,.slice none 0 0,.slice none 0 0] []),Mv 18 7,Sr 3 4 17,Mv 5 18]) .ret) .skip)) (Ss (Ss (Oo [Lt 19 3 6,Ca 20 199 [Tt 19],Ii 21 (.bin .eql (Tt 20) (Nn 0))]) (.cond (Tt 21) (Ss (Oo [Ca 22 156 [Nn 0],Sr 3 4 22,Ii 5 (.mov (Nn 0))]) .ret) .skip)) (Ss (Oo [Lt 24 3 2,Lt 25 3 6,Ca 26 200 [Tt 24,Tt 25],Mv 23 26,Ex 27 0 23,Ex 28 1 23,Ii 8 (.alloc 51 [.bool false,.slice none 0 0,.slice none 0 0]),Sr 3 8 27,Mv 7 28]) (Ss (Ss (Oo [Mv 29 7,Ii 30 (.bin .neq (Tt 29) (Nn 0))]) (.cond (Tt 30) (Ss (Oo [Ii 31 (.build [.bool false,.slice none 0 0,.slice none 0 0] []),Mv 32 7,Sr 3 4 31,Mv 5 32]) .ret) .skip)) (Ss (Oo [Lt 33 3 8,Lt 34 3 3,Ca 35 216 [Tt 33,Tt 34],Ex 36 0 35,Ex 37 1 35,Sr 3 4 36,Mv 5 37]) .ret))))))⟩=F)=>F) ?_ ?_;rotate_left;dsimp only[Tt,Nn,Ii,Mv,Lt,Ex,Sr,Ca,Oo,Ss];exact rfl
theorem code_ratio_Lcm:lowerF Tryz.prog 219 = some fn_ratio_Lcm:=by kernel_rfl
def fn_scalar_truth:AFn:=by refine (fun (F:AFn)(_:⟨6,[.c 2 true 3],Ss (Oo [Ii 2 (.alloc 51 [.bool false,.slice none 0 0,.slice none 0 0])]) (Ss (Ss (Oo [Mv 3 0]) (.cond (Tt 3) (Ss (Oo [Ca 4 156 [Nn 1],Sr 3 2 4]) .ret) .skip)) (Ss (Oo [Ca 5 156 [Nn 0],Sr 3 2 5]) .ret))⟩=F)=>F) ?_ ?_;rotate_left;dsimp only[Tt,Nn,Ii,Mv,Sr,Ca,Oo,Ss];exact rfl
theorem code_scalar_truth:lowerF Tryz.prog 184 = some fn_scalar_truth:=by kernel_rfl
def fn_scalar_compared:AFn:=by refine (fun (F:AFn)(_:⟨41,[.c 6 true 3,.t 7],Ss (Oo [Ii 4 (.box 51 3 (Tt 1)),Ii 5 (.box 51 3 (Tt 2)),Ii 6 (.alloc 51 [.bool false,.slice none 0 0,.slice none 0 0]),Ii 7 (.mov (Nn 0))]) (Ss (Oo [Lt 10 3 4,Lt 11 3 5,Ca 12 163 [Tt 10,Tt 11],Mv 8 12,Ii 9 (.mov (Bo false))]) (Ss (Ss (Oo [Mv 13 0]) (.block 0 (Ss (Oo [Ii 16 (.bin .eql (Tt 13) (Nn 60)),Mv 15 16]) (.cond (Tt 15) (Oo [Mv 17 8,Ii 18 (.bin .lss (Tt 17) (Nn 0)),Mv 9 18]) (Ss (Oo [Ii 20 (.bin .eql (Tt 13) (Nn 8804)),Mv 19 20]) (.cond (Tt 19) (Oo [Mv 21 8,Ii 22 (.bin .leq (Tt 21) (Nn 0)),Mv 9 22]) (Ss (Oo [Ii 24 (.bin .eql (Tt 13) (Nn 61)),Mv 23 24]) (.cond (Tt 23) (Oo [Mv 25 8,Ii 26 (.bin .eql (Tt 25) (Nn 0)),Mv 9 26]) (Ss (Oo [Ii 28 (.bin .eql (Tt 13) (Nn 8805)),Mv 27 28]) (.cond (Tt 27) (Oo [Mv 29 8,Ii 30 (.bin .geq (Tt 29) (Nn 0)),Mv 9 30]) (Ss (Oo [Ii 32 (.bin .eql (Tt 13) (Nn 62)),Mv 31 32]) (.cond (Tt 31) (Oo [Mv 33 8,Ii 34 (.bin .gtr (Tt 33) (Nn 0)),Mv 9 34]) (Ss (Oo [Ii 36 (.bin .eql (Tt 13) (Nn 8800)),Mv 35 36]) (.cond (Tt 35) (Oo [Mv 37 8,Ii 38 (.bin .neq (Tt 37) (Nn 0)),Mv 9 38]) (Ss (Oo [Ii 14 (.build [.bool false,.slice none 0 0,.slice none 0 0] []),Sr 3 6 14,Ii 7 (.mov (Nn 8))]) .ret))))))))))))))) (Ss (Oo [Mv 39 9,Ca 40 184 [Tt 39],Sr 3 6 40,Ii 7 (.mov (Nn 0))]) .ret)))⟩=F)=>F) ?_ ?_;rotate_left;dsimp only[Tt,Nn,Bo,Ii,Mv,Lt,Sr,Ca,Oo,Ss];exact rfl
theorem code_scalar_compared:lowerF Tryz.prog 221 = some fn_scalar_compared:=by kernel_rfl
def fn_scalar_Numbers:AFn:=by refine (fun (F:AFn)(_:⟨95,[.c 6 true 3,.t 7],Ss (Oo [Ii 4 (.box 51 3 (Tt 1)),Ii 5 (.box 51 3 (Tt 2)),Ii 6 (.alloc 51 [.bool false,.slice none 0 0,.slice none 0 0]),Ii 7 (.mov (Nn 0))]) (Ss (Ss (Oo [Mv 10 0]) (.block 0 (Ss (Oo [Ii 12 (.bin .eql (Tt 10) (Nn 43)),Mv 11 12]) (.cond (Tt 11) (Ss (Oo [Lt 13 3 4,Lt 14 3 5,Ca 15 214 [Tt 13,Tt 14],Ex 16 0 15,Ex 17 1 15,Sr 3 6 16,Mv 7 17]) .ret) (Ss (Oo [Ii 19 (.bin .eql (Tt 10) (Nn 45)),Mv 18 19]) (.cond (Tt 18) (Ss (Oo [Lt 20 3 4,Lt 21 3 5,Ca 22 215 [Tt 20,Tt 21],Ex 23 0 22,Ex 24 1 22,Sr 3 6 23,Mv 7 24]) .ret) (Ss (Oo [Ii 26 (.bin .eql (Tt 10) (Nn 215)),Mv 25 26]) (.cond (Tt 25) (Ss (Oo [Lt 27 3 4,Lt 28 3 5,Ca 29 216 [Tt 27,Tt 28],Ex 30 0 29,Ex 31 1 29,Sr 3 6 30,Mv 7 31]) .ret) (Ss (Oo [Ii 33 (.bin .eql (Tt 10) (Nn 247)),Mv 32 33]) (.cond (Tt 32) (Ss (Oo [Lt 34 3 4,Lt 35 3 5,Ca 36 200 [Tt 34,Tt 35],Ex 37 0 36,Ex 38 1 36,Sr 3 6 37,Mv 7 38]) .ret) (Ss (Ss (Oo [Ii 40 (.bin .eql (Tt 10) (Nn 8968)),Mv 39 40]) (.cond (Tt 39) .skip (Oo [Ii 41 (.bin .eql (Tt 10) (Nn 8970)),Mv 39 41]))) (.cond (Tt 39) (Ss (Ss (Oo [Lt 42 3 4,Lt 43 3 5,Ca 44 163 [Tt 42,Tt 43],Ii 45 (.bin .lss (Tt 44) (Nn 0)),Mv 46 0,Ii 47 (.bin .eql (Tt 46) (Nn 8968)),Ii 48 (.binB .eql (Tt 45) (Tt 47))]) (.cond (Tt 48) (Oo [Lt 49 3 5,Sr 3 4 49]) .skip)) (Ss (Oo [Lt 50 3 4,Ca 51 197 [Tt 50],Ii 52 (.field true 2 3 (Tt 51)),Sr 3 6 52,Ii 7 (.mov (Nn 0))]) .ret)) (Ss (Oo [Ii 54 (.bin .eql (Tt 10) (Nn 124)),Mv 53 54]) (.cond (Tt 53) (Ss (Oo [Lt 55 3 4,Lt 56 3 5,Ca 57 217 [Tt 55,Tt 56],Ex 58 0 57,Ex 59 1 57,Sr 3 6 58,Mv 7 59]) .ret) (Ss (Oo [Ii 61 (.bin .eql (Tt 10) (Nn 42)),Mv 60 61]) (.cond (Tt 60) (Ss (Oo [Lt 63 3 5,Ca 64 124 [Tt 63],Mv 62 64,Ex 65 0 62,Ex 66 1 62,Mv 8 65,Mv 9 66]) (Ss (Ss (Oo [Mv 67 9,Ii 68 (.un .not (Tt 67))]) (.cond (Tt 68) (Ss (Oo [Ii 69 (.build [.bool false,.slice none 0 0,.slice none 0 0] []),Sr 3 6 69,Ii 7 (.mov (Nn 8))]) .ret) .skip)) (Ss (Oo [Lt 70 3 4,Mv 71 8,Ca 72 218 [Tt 70,Tt 71],Ex 73 0 72,Ex 74 1 72,Sr 3 6 73,Mv 7 74]) .ret))) (Ss (Oo [Ii 76 (.bin .eql (Tt 10) (Nn 8743)),Mv 75 76]) (.cond (Tt 75) (Ss (Oo [Lt 77 3 4,Lt 78 3 5,Ca 79 219 [Tt 77,Tt 78],Ex 80 0 79,Ex 81 1 79,Sr 3 6 80,Mv 7 81]) .ret) (Ss (Oo [Ii 83 (.bin .eql (Tt 10) (Nn 8744)),Mv 82 83]) (.cond (Tt 82) (Ss (Oo [Lt 84 3 4,Lt 85 3 5,Ca 86 220 [Tt 84,Tt 85],Ex 87 0 86,Ex 88 1 86,Sr 3 6 87,Mv 7 88]) .ret) .skip)))))))))))))))))))) (Ss (Oo [Mv 89 0,Lt 90 3 4,Lt 91 3 5,Ca 92 221 [Tt 89,Tt 90,Tt 91],Ex 93 0 92,Ex 94 1 92,Sr 3 6 93,Mv 7 94]) .ret))⟩=F)=>F) ?_ ?_;rotate_left;dsimp only[Tt,Nn,Ii,Mv,Lt,Ex,Sr,Ca,Oo,Ss];exact rfl
theorem code_scalar_Numbers:lowerF Tryz.prog 183 = some fn_scalar_Numbers:=by kernel_rfl
def fn_scalar_IsTwo:AFn:=by refine (fun (F:AFn)(_:⟨21,[.t 2],Ss (Oo [Ii 2 (.mov (Bo false))]) (Ss (Ss (Oo [Mv 3 0]) (.block 0 (Ss (Ss (Oo [Ii 5 (.bin .eql (Tt 3) (Nn 43)),Mv 4 5]) (.cond (Tt 4) .skip (Ss (Oo [Ii 6 (.bin .eql (Tt 3) (Nn 45)),Mv 4 6]) (.cond (Tt 4) .skip (Ss (Oo [Ii 7 (.bin .eql (Tt 3) (Nn 215)),Mv 4 7]) (.cond (Tt 4) .skip (Ss (Oo [Ii 8 (.bin .eql (Tt 3) (Nn 247)),Mv 4 8]) (.cond (Tt 4) .skip (Ss (Oo [Ii 9 (.bin .eql (Tt 3) (Nn 8968)),Mv 4 9]) (.cond (Tt 4) .skip (Ss (Oo [Ii 10 (.bin .eql (Tt 3) (Nn 8970)),Mv 4 10]) (.cond (Tt 4) .skip (Ss (Oo [Ii 11 (.bin .eql (Tt 3) (Nn 124)),Mv 4 11]) (.cond (Tt 4) .skip (Ss (Oo [Ii 12 (.bin .eql (Tt 3) (Nn 42)),Mv 4 12]) (.cond (Tt 4) .skip (Ss (Oo [Ii 13 (.bin .eql (Tt 3) (Nn 60)),Mv 4 13]) (.cond (Tt 4) .skip (Ss (Oo [Ii 14 (.bin .eql (Tt 3) (Nn 8804)),Mv 4 14]) (.cond (Tt 4) .skip (Ss (Oo [Ii 15 (.bin .eql (Tt 3) (Nn 61)),Mv 4 15]) (.cond (Tt 4) .skip (Ss (Oo [Ii 16 (.bin .eql (Tt 3) (Nn 8805)),Mv 4 16]) (.cond (Tt 4) .skip (Ss (Oo [Ii 17 (.bin .eql (Tt 3) (Nn 62)),Mv 4 17]) (.cond (Tt 4) .skip (Ss (Oo [Ii 18 (.bin .eql (Tt 3) (Nn 8800)),Mv 4 18]) (.cond (Tt 4) .skip (Ss (Oo [Ii 19 (.bin .eql (Tt 3) (Nn 8743)),Mv 4 19]) (.cond (Tt 4) .skip (Oo [Ii 20 (.bin .eql (Tt 3) (Nn 8744)),Mv 4 20]))))))))))))))))))))))))))))))) (.cond (Tt 4) (Ss (Oo [Ii 2 (.mov (Bo true))]) .ret) .skip)))) (Ss (Oo [Ii 2 (.mov (Bo false))]) .ret))⟩=F)=>F) ?_ ?_;rotate_left;dsimp only[Tt,Nn,Bo,Ii,Mv,Oo,Ss];exact rfl
theorem code_scalar_IsTwo:lowerF Tryz.prog 150 = some fn_scalar_IsTwo:=by kernel_rfl
def fn_scalar_Conform:AFn:=by refine (fun (F:AFn)(_:⟨40,[.t 4,.t 5],Ss (Oo [Ii 2 (.box 26 3 (Tt 0)),Ii 3 (.box 26 3 (Tt 1)),Ii 4 (.mov (.const (.slice none 0 0))),Ii 5 (.mov (Nn 0))]) (Ss (.block 0 (Ss (Oo [Fa 7 1 2,Lf 8 7,Le 9 8,Ii 10 (.bin .eql (Tt 9) (Nn 0)),Mv 6 10]) (.cond (Tt 6) (Ss (Oo [Fa 11 1 3,Lf 12 11,Ca 13 71 [Tt 12],Mv 4 13,Ii 5 (.mov (Nn 0))]) .ret) (Ss (Oo [Fa 15 1 3,Lf 16 15,Le 17 16,Ii 18 (.bin .eql (Tt 17) (Nn 0)),Mv 14 18]) (.cond (Tt 14) (Ss (Oo [Fa 19 1 2,Lf 20 19,Ca 21 71 [Tt 20],Mv 4 21,Ii 5 (.mov (Nn 0))]) .ret) (Ss (Oo [Fa 23 1 2,Lf 24 23,Le 25 24,Fa 26 1 3,Lf 27 26,Le 28 27,Ii 29 (.bin .neq (Tt 25) (Tt 28)),Mv 22 29]) (.cond (Tt 22) (Ss (Oo [Ii 4 (.mov (.const (.slice none 0 0))),Ii 5 (.mov (Nn 5))]) .ret) (Ss (Oo [Fa 31 1 2,Lf 32 31,Fa 33 1 3,Lf 34 33,Ca 35 88 [Tt 32,Tt 34],Ii 36 (.un .not (Tt 35)),Mv 30 36]) (.cond (Tt 30) (Ss (Oo [Ii 4 (.mov (.const (.slice none 0 0))),Ii 5 (.mov (Nn 4))]) .ret) .skip))))))))) (Ss (Oo [Fa 37 1 2,Lf 38 37,Ca 39 71 [Tt 38],Mv 4 39,Ii 5 (.mov (Nn 0))]) .ret))⟩=F)=>F) ?_ ?_;rotate_left;dsimp only[Tt,Nn,Ii,Mv,Lf,Fa,Le,Ca,Oo,Ss];exact rfl
theorem code_scalar_Conform:lowerF Tryz.prog 151 = some fn_scalar_Conform:=by kernel_rfl
def fn_scalar_pick:AFn:=by refine (fun (F:AFn)(_:⟨24,[.c 4 true 7],Ss (Oo [Ii 2 (.box 26 3 (Tt 0)),Ii 4 (.alloc 54 Zc)]) (Ss (Ss (Oo [Fa 5 1 2,Lf 6 5,Le 7 6,Ii 8 (.bin .eql (Tt 7) (Nn 0))]) (.cond (Tt 8) (Oo [Ii 1 (.mov (Nn 0))]) .skip)) (Ss (Ss (Oo [Mv 9 1,Ii 10 (.bin .lss (Tt 9) (Nn 0)),Mv 11 10,Ig 12 11 false (.mov (Tt 1)),Ig 13 11 false (.faddr 2 (Tt 2)),Ig 14 11 false (.load false 1 (Tt 13)),Ig 15 11 false (.len (Tt 14)),Ig 16 11 false (.bin .geq (Tt 12) (Tt 15)),Ii 17 (.pick (Tt 11) (Bo true) (Tt 16))]) (.cond (Tt 17) (Ss (Oo [Ii 18 (.build Zc []),Sr 7 4 18]) .ret) .skip)) (Ss (Oo [Fa 19 2 2,Lf 20 19,Mv 21 1,Ia 22 7 20 21,Lt 23 7 22,Sr 7 4 23]) .ret)))⟩=F)=>F) ?_ ?_;rotate_left;dsimp only[Tt,Nn,Bo,Ii,Ig,Mv,Lf,Lt,Fa,Le,Ia,Sr,Oo,Ss,Zc];exact rfl
theorem code_scalar_pick:lowerF Tryz.prog 153 = some fn_scalar_pick:=by kernel_rfl
def fn_scalar_inside:AFn:=by refine (fun (F:AFn)(_:⟨12,[.c 2 true 3],Ss (Oo [Ii 1 (.box 54 7 (Tt 0)),Ii 2 (.alloc 26 Za)]) (Ss (Ss (Oo [Fa 3 6 1,Lf 4 3,Le 5 4,Ii 6 (.bin .eql (Tt 5) (Nn 0))]) (.cond (Tt 6) (Ss (Oo [Ii 7 (.build Za []),Sr 3 2 7]) .ret) .skip)) (Ss (Oo [Fa 8 6 1,Lf 9 8,Ii 10 (.iaddr 3 (Tt 9) (Nn 0)),Lt 11 3 10,Sr 3 2 11]) .ret))⟩=F)=>F) ?_ ?_;rotate_left;dsimp only[Tt,Nn,Ii,Lf,Lt,Fa,Le,Sr,Oo,Ss,Za];exact rfl
theorem code_scalar_inside:lowerF Tryz.prog 166 = some fn_scalar_inside:=by kernel_rfl
def fn_scalar_content:AFn:=by refine (fun (F:AFn)(_:⟨11,[.c 2 true 3],Ss (Oo [Ii 1 (.box 54 7 (Tt 0)),Ii 2 (.alloc 26 Za)]) (Ss (Ss (Oo [Fa 3 1 1,Lf 4 3,Ii 5 (.bin .eql (Tt 4) (Nn 2))]) (.cond (Tt 5) (Ss (Oo [Lt 6 7 1,Ca 7 166 [Tt 6],Sr 3 2 7]) .ret) .skip)) (Ss (Oo [Fa 8 0 1,Jj (.store 1 (Tt 8) (.const (.int .u64 0)))]) (Ss (Oo [Lt 9 7 1,Ca 10 137 [Tt 9],Sr 3 2 10]) .ret)))⟩=F)=>F) ?_ ?_;rotate_left;dsimp only[Tt,Nn,Ii,Jj,Lf,Lt,Fa,Sr,Ca,Oo,Ss,Za];exact rfl
theorem code_scalar_content:lowerF Tryz.prog 182 = some fn_scalar_content:=by kernel_rfl
end Go.Proofs.YtnnipocjapblkaaGreat
