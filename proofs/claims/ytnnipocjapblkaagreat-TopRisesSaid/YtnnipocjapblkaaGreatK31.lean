/- What is found: find.both, shaped, those; Index, Member, Those, Union. -/
import Derived.Test.YtnnipocjapblkaaGreatK30
import Derived.Test.YtnnipocjapblkaaGreatK26
import Derived.Test.YtnnipocjapblkaaGreatK25
import Derived.Test.YtnnipocjapblkaaGreatK13
import Derived.Test.YtnnipocjapblkaaGreatK21
import Derived.Test.YtnnipocjapblkaaGreatK03
import Derived.Test.YtnnipocjapblkaaGreatK05
import Derived.Test.YtnnipocjapblkaaGreatK04
import Derived.Test.YtnnipocjapblkaaGreatK22
import Derived.Test.YtnnipocjapblkaaGreatK07
import Derived.Test.YtnnipocjapblkaaGreatK28
set_option maxRecDepth 10000
set_option maxHeartbeats 4000000
namespace Go.Proofs.YtnnipocjapblkaaGreat
set_option linter.unusedVariables false
open Go.RowKit
theorem both_a (A B:Arr) (hA:okA A) (hB:okA B):ACalls Tryz.prog 140 [.agg (arrV A),.agg (arrV B)] (labV (totA A ||| totA B)):=by
 have c1:=total_a A hA
 have c2:=total_a B hB
 have c3:=join_a (totA A) (totA B) (totA_lt A hA) (totA_lt B hB)
 refine acalls_of code_find_both (by simp [fn_find_both]) fun C hC => ?_
 refine wk5 ?_
 exact fin
theorem shaped_a (s:Nat) (sh:List Int) (cs:List Cell) (hl:sh.length≤100000):ACalls Tryz.prog 139 [labV s,.sl 1 (intsA .i64 sh),.sl 7 (cs.map cellR)] (.agg (arrV (.mk s sh cs))):=by
 have ls:=intsA_len .i64 sh
 have hb:(0+(intsA .i64 sh).length) * 8≤140737488355328:=by omega
 refine acalls_of code_find_shaped (by simp [fn_find_shaped]) fun C hC => ?_
 refine wk5 ?_
 exact fin
theorem firstF_rng (l:List Cell) (c:Cell) {n:Nat}:∀ is:List Int,(∀ i ∈ is,0≤i∧i<n) → -1≤firstF l c is∧firstF l c is<n
 | [],_=>by rw [firstF]; omega
 | i::is,h=>by
   rw [firstF]
   split
   ·have:=h i (List.mem_cons_self ..); omega
   ·exact firstF_rng l c is fun j hj=>h j (List.mem_cons_of_mem _ hj)
theorem placeP_rng (l:List Cell) (c:Cell) : -1≤placeP l c∧placeP l c<l.length:=firstF_rng l c _ fun i hi=>plcF_mem hi
def thoseL (L M:List Cell) (inn:Bool):List Cell:=L.filter fun c=>decide (placeP M c ≥ 0) == inn
theorem thoseL_len (L M:List Cell) (inn:Bool):(thoseL L M inn).length≤L.length:=List.length_filter_le _ _
theorem thoseL_take {L:List Cell} {j:Nat} {c:Cell} (h:L[j]? = some c) (M:List Cell) (inn:Bool):thoseL (L.take (j+1)) M inn=if (decide (placeP M c ≥ 0) == inn)=true then thoseL (L.take j) M inn++[c] else thoseL (L.take j) M inn:=by
 unfold thoseL
 rw [takeA_snoc h,List.filter_append,List.filter_cons]
 split
 ·rfl
 ·simp
theorem those_a (L M:List Cell) (inn:Bool) (hL:L.length≤100000) (hM:M.length≤100000) (kL:∀ c ∈ L,okC c) (kM:∀ c ∈ M,okC c):ACalls Tryz.prog 143 [.sl 7 (L.map cellR),.sl 7 (M.map cellR),.lit (.bool inn)] (.sl 7 ((thoseL L M inn).map cellR)):=by
 have c1:=finder_a M hM kM
 have cl:=fun c hc=>finder1_a M c hM hc kM
 have lL:((L.map cellR).length:Int)=L.length:=by simp
 unfold findV at c1
 generalize plcR (plcF M)=R at c1 cl
 refine acalls_of code_find_those (by simp [fn_find_those]) fun C hC => ?_
 refine wk5 ?_
 refine aw_loopB [2,7,14,15] [] (fun j:Nat=>[(8,.own 0),(16,nA j)]) (fun j=>[(0,some ⟨true,false,54,7,(thoseL (L.take j) M inn).map cellR⟩)]) 1
  (fun j=>j≤L.length) (fun j=>L.length - j) 0 (Nat.zero_le _) ?_
 intro j hj
 dsimp only [List.cons_append,List.nil_append] at hj ⊢
 clear c1
 by_cases hlt:j<L.length
 ·obtain ⟨c,hc⟩:∃ c,L[j]? = some c:=⟨_,List.getElem?_eq_getElem hlt⟩
  have hck:=cell_at hc
  have c2:=cl c (kL c (List.mem_of_getElem? hc))
  have hst:=thoseL_take hc M inn
  have hlen:=thoseL_len (L.take j) M inn
  rw [List.length_take] at hlen
  have hS:((thoseL (L.take j) M inn).map cellR).length≤100000:=by rw [List.length_map]; omega
  generalize placeP M c=q at c2 hst
  by_cases hq:(decide (q ≥ 0) == inn)=true
  ·rw [if_pos hq] at hst
   have hm:(thoseL (L.take j) M inn).map cellR++[cellV c]=(thoseL (L.take (j+1)) M inn).map cellR:=by rw [hst]; simp [cellR_eq]
   generalize (thoseL (L.take j) M inn).map cellR=S at hS hm ⊢
   have hb:(S.length+1) * 104≤140737488355328:=by omega
   by_cases hq0:q ≥ 0
   ·rw [decide_eq_true hq0] at hq
    obtain rfl:true=inn:=eq_of_beq hq
    refine wk5 ?_
    exact ⟨j+1,by omega,by omega,wkR hC.m [(0,3)] (by rw [← hm]; rfl)⟩
   ·rw [decide_eq_false hq0] at hq
    obtain rfl:false=inn:=eq_of_beq hq
    refine wk5 ?_
    exact ⟨j+1,by omega,by omega,wkR hC.m [(0,3)] (by rw [← hm]; rfl)⟩
  ·rw [if_neg hq] at hst
   rw [← hst]
   by_cases hq0:q ≥ 0
   ·rw [decide_eq_true hq0] at hq
    obtain rfl:inn=false:=by cases inn<;>simp_all
    refine wk5 ?_
    exact ⟨j+1,by omega,by omega,wkR hC.m []⟩
   ·rw [decide_eq_false hq0] at hq
    obtain rfl:inn=true:=by cases inn<;>simp_all
    refine wk5 ?_
    exact ⟨j+1,by omega,by omega,wkR hC.m []⟩
 ·rw [List.take_of_length_le (by omega)]
  refine wk5 ?_
  exact fin
def thoseP (A B:Arr) (inn:Bool):Arr × Int:=if A.shape.length > 1 then (zA,5) else (raiP (.mk 0 [((thoseL A.cells B.cells inn).length:Int)] (thoseL A.cells B.cells inn)) (totA A ||| totA B),0)
def unionP (A B:Arr):Arr × Int :=
 if A.shape.length > 1∨B.shape.length > 1 then (zA,5) else
 if A.cells.length+(thoseL B.cells A.cells false).length > 2048 then (zA,7) else
 (raiP (.mk 0 [((A.cells++thoseL B.cells A.cells false).length:Int)] (A.cells++thoseL B.cells A.cells false)) (totA A ||| totA B),0)
def idxC2 (M:List Cell) (c:Cell):Cell:=intC ((if placeP M c<0 then (M.length:Int) else placeP M c)+1)
def indexP (A B:Arr):Arr × Int:=if A.shape.length≠1 then (zA,5) else (.mk (totA A ||| totA B) B.shape (B.cells.map (idxC2 A.cells)),0)
def memC (M:List Cell) (c:Cell):Cell:=intC (if placeP M c ≥ 0 then 1 else 0)
def memberP (A B:Arr):Arr:=.mk (totA A ||| totA B) A.shape (A.cells.map (memC B.cells))
theorem okCs_at {cs:List Cell} (h:okCs cs):∀ c ∈ cs,okC c:=okCs_mem.1 h
theorem okC.lens {c:Cell} (h:okC c):c.n.top.length≤maxB∧c.n.bot.length≤maxB∧c.ins.length≤maxB:=⟨h.parts.2.1,h.parts.2.2.1,h.parts.2.2.2.1⟩
theorem Those_a (A B:Arr) (inn:Bool) (kA:okJ A) (kB:okJ B):ACalls Tryz.prog 84 [.agg (arrV A),.agg (arrV B),.lit (.bool inn)] (.tup [.agg (arrV (thoseP A B inn).1),nA (thoseP A B inn).2]):=by
 have hB:maxB=1000000000:=rfl
 have hAl:=kA.cells
 have hBl:=kB.cells
 have sA:=okCs_at kA.ok.parts.2.2.2
 have sB:=okCs_at kB.ok.parts.2.2.2
 have c1:=those_a A.cells B.cells inn (by omega) (by omega) sA sB
 have hlen:=thoseL_len A.cells B.cells inn
 have c2:=vector_a (thoseL A.cells B.cells inn) (by omega) (fun c hc=>(sA c (List.mem_filter.1 hc).1).lens)
 have c3:=both_a A B kA.ok kB.ok
 have c4:=raiP_a (.mk 0 [((thoseL A.cells B.cells inn).length:Int)] (thoseL A.cells B.cells inn)) (totA A ||| totA B) (by show 0<_; omega) (Nat.or_lt_two_pow (n:=64) (totA_lt A kA.ok) (totA_lt B kB.ok))
 have ls:=intsA_len .i64 A.shape
 unfold thoseP
 generalize thoseL A.cells B.cells inn=T at *
 generalize raiP (.mk 0 [(T.length:Int)] T) (totA A ||| totA B)=Z at *
 refine acalls_defer code_find_Those (by simp [fn_find_Those]) idle_find_Those fun C hC => ?_
 by_cases h:A.shape.length > 1
 ·rw [if_pos h]
  refine wk5 ?_
  intro ds
  refine wk5 ?_
  exact fin
 ·rw [if_neg h]
  refine wk5 ?_
  intro ds
  refine wk5 ?_
  exact fin
theorem Index_a (A B:Arr) (kA:okJ A) (kB:okJ B):ACalls Tryz.prog 81 [.agg (arrV A),.agg (arrV B)] (.tup [.agg (arrV (indexP A B).1),nA (indexP A B).2]):=by
 have hB:maxB=1000000000:=rfl
 have hAl:=kA.cells
 have hBl:=kB.cells
 have sA:=okCs_at kA.ok.parts.2.2.2
 have sB:=okCs_at kB.ok.parts.2.2.2
 have c1:=finder_a A.cells (by omega) sA
 have cl:=fun c hc=>finder1_a A.cells c (by omega) hc sA
 have hrg:=placeP_rng A.cells
 have c3:=both_a A B kA.ok kB.ok
 have hB6:=kB.len
 have c4:=shaped_a (totA A ||| totA B) B.shape (B.cells.map (idxC2 A.cells)) (by omega)
 have ls:=intsA_len .i64 A.shape
 have lA:=cells_len A
 have lB:=cells_len B
 unfold findV at c1
 unfold indexP
 generalize plcR (plcF A.cells)=R at c1 cl
 have hCS:∀ j c,B.cells[j]? = some c→(B.cells.map (idxC2 A.cells))[j]? = some (intC ((if placeP A.cells c<0 then (A.cells.length:Int) else placeP A.cells c)+1)):=fun j c h=>by rw [List.getElem?_map,h]; rfl
 have hCl:(B.cells.map (idxC2 A.cells)).length=B.cells.length:=List.length_map ..
 generalize B.cells.map (idxC2 A.cells)=CS at *
 have e0:=rowK_zero cellV cellZ CS
 rw [hCl] at e0
 refine acalls_defer code_find_Index (by simp [fn_find_Index]) idle_find_Index fun C hC => ?_
 by_cases h:A.shape.length=1
 ·rw [if_neg (fun g=>g h)]
  refine wk5 ?_
  intro ds
  refine wk5 ?_
  refine aw_loopB [2,3,4,5,6,7,25,26] [0,1,2,3] (fun k:Nat=>[(27,nA k)]) (fun k=>[(4,some ⟨true,false,54,7,rowK cellV cellZ CS k⟩)]) 5
   (fun k=>k≤B.cells.length) (fun k=>B.cells.length - k) 0 (Nat.zero_le _) ?_ (hh:=by rw [← e0]; simp only [Int.toNat_natCast]; rfl)
  intro k hk
  dsimp only [List.cons_append,List.nil_append] at hk ⊢
  clear c1
  by_cases hlt:k<B.cells.length
  ·obtain ⟨c,hc⟩:∃ c,B.cells[k]? = some c:=⟨_,List.getElem?_eq_getElem hlt⟩
   have hck:=cell_at hc
   have c2:=cl c (sB c (List.mem_of_getElem? hc))
   have hr:=hrg c
   have hset:=rowK_set cellV cellZ CS k _ (hCS k c hc)
   have hget:=rowK_get cellV cellZ CS k (by omega)
   have hll:=rowK_len cellV cellZ CS k (by omega)
   clear c3 c4 hCS hrg
   by_cases hq:placeP A.cells c<0
   ·rw [if_pos hq] at hset
    have c5:=arrIntG_a ((A.cells.length:Int)+1) (by omega) (by omega)
    refine wk5 ?_
    exact ⟨k+1,by omega,by omega,wkR hC.m [] (by rw [← hset]; rfl)⟩
   ·rw [if_neg hq] at hset
    have c5:=arrIntG_a (placeP A.cells c+1) (by omega) (by omega)
    refine wk5 ?_
    exact ⟨k+1,by omega,by omega,wkR hC.m [] (by rw [← hset]; rfl)⟩
  ·rw [rowK_end cellV cellZ CS k (by omega),show CS.map cellV=CS.map cellR from by simp [cellR_eq]]
   refine aw_freeze 4 rfl ?_
   refine wk5 ?_
   exact fin
 ·rw [if_pos h]
  refine wk5 ?_
  intro ds
  refine wk5 ?_
  exact fin
theorem Member_a (A B:Arr) (kA:okJ A) (kB:okJ B):ACalls Tryz.prog 82 [.agg (arrV A),.agg (arrV B)] (.agg (arrV (memberP A B))):=by
 have hB:maxB=1000000000:=rfl
 have hAl:=kA.cells
 have hBl:=kB.cells
 have sA:=okCs_at kA.ok.parts.2.2.2
 have sB:=okCs_at kB.ok.parts.2.2.2
 have c1:=finder_a B.cells (by omega) sB
 have cl:=fun c hc=>finder1_a B.cells c (by omega) hc sB
 have c3:=both_a A B kA.ok kB.ok
 have hA6:=kA.len
 have c4:=shaped_a (totA A ||| totA B) A.shape (A.cells.map (memC B.cells)) (by omega)
 have lA:=cells_len A
 have lB:=cells_len B
 unfold findV at c1
 unfold memberP
 generalize plcR (plcF B.cells)=R at c1 cl
 have hCS:∀ j c,A.cells[j]? = some c→(A.cells.map (memC B.cells))[j]? = some (intC (if placeP B.cells c ≥ 0 then 1 else 0)):=fun j c h=>by rw [List.getElem?_map,h]; rfl
 have hCl:(A.cells.map (memC B.cells)).length=A.cells.length:=List.length_map ..
 generalize A.cells.map (memC B.cells)=CS at *
 have e0:=rowK_zero cellV cellZ CS
 rw [hCl] at e0
 have c5:=arrIntG_a 0 (by omega) (by omega)
 have c6:=arrIntG_a 1 (by omega) (by omega)
 refine acalls_defer code_find_Member (by simp [fn_find_Member]) idle_find_Member fun C hC => ?_
 refine wk5 ?_
 intro ds
 refine wk5 ?_
 refine aw_loopB [2,3,4,5,6,19,20] [0,1,2] (fun k:Nat=>[(21,nA k)]) (fun k=>[(3,some ⟨true,false,54,7,rowK cellV cellZ CS k⟩)]) 4
  (fun k=>k≤A.cells.length) (fun k=>A.cells.length - k) 0 (Nat.zero_le _) ?_ (hh:=by rw [← e0]; simp only [Int.toNat_natCast]; rfl)
 intro k hk
 dsimp only [List.cons_append,List.nil_append] at hk ⊢
 clear c1
 by_cases hlt:k<A.cells.length
 ·obtain ⟨c,hc⟩:∃ c,A.cells[k]? = some c:=⟨_,List.getElem?_eq_getElem hlt⟩
  have hck:=cell_at hc
  have c2:=cl c (sA c (List.mem_of_getElem? hc))
  have hset:=rowK_set cellV cellZ CS k _ (hCS k c hc)
  have hget:=rowK_get cellV cellZ CS k (by omega)
  have hll:=rowK_len cellV cellZ CS k (by omega)
  clear c3 c4 hCS
  by_cases hq:placeP B.cells c ≥ 0
  ·rw [if_pos hq] at hset
   clear c5
   refine wk5 ?_
   exact ⟨k+1,by omega,by omega,wkR hC.m [] (by rw [← hset]; rfl)⟩
  ·rw [if_neg hq] at hset
   clear c6
   refine wk5 ?_
   exact ⟨k+1,by omega,by omega,wkR hC.m [] (by rw [← hset]; rfl)⟩
 ·rw [rowK_end cellV cellZ CS k (by omega),show CS.map cellV=CS.map cellR from by simp [cellR_eq]]
  refine aw_freeze 3 rfl ?_
  refine wk5 ?_
  exact fin
theorem Union_a (A B:Arr) (kA:okJ A) (kB:okJ B):ACalls Tryz.prog 83 [.agg (arrV A),.agg (arrV B)] (.tup [.agg (arrV (unionP A B).1),nA (unionP A B).2]):=by
 have hB:maxB=1000000000:=rfl
 have hAl:=kA.cells
 have hBl:=kB.cells
 have sA:=okCs_at kA.ok.parts.2.2.2
 have sB:=okCs_at kB.ok.parts.2.2.2
 have c1:=those_a B.cells A.cells false (by omega) (by omega) sB sA
 have hlen:=thoseL_len B.cells A.cells false
 have c2:=vector_a (A.cells++thoseL B.cells A.cells false) (by rw [List.length_append]; omega) (fun c hc=>by
  rcases List.mem_append.1 hc with h|h
  ·exact (sA c h).lens
  ·exact (sB c (List.mem_filter.1 h).1).lens)
 have c3:=both_a A B kA.ok kB.ok
 have c4:=raiP_a (.mk 0 [((A.cells++thoseL B.cells A.cells false).length:Int)] (A.cells++thoseL B.cells A.cells false)) (totA A ||| totA B) (by show 0<_; omega) (Nat.or_lt_two_pow (n:=64) (totA_lt A kA.ok) (totA_lt B kB.ok))
 have ls:=intsA_len .i64 A.shape
 have lt:=intsA_len .i64 B.shape
 have lA:=cells_len A
 unfold unionP
 generalize thoseL B.cells A.cells false=T at *
 have lT:((T.map cellR).length:Int)=T.length:=by simp
 have hap:A.cells.map cellR++T.map cellR=(A.cells++T).map cellR:=List.map_append.symm
 generalize raiP (.mk 0 [((A.cells++T).length:Int)] (A.cells++T)) (totA A ||| totA B)=Z at *
 refine acalls_defer code_find_Union (by simp [fn_find_Union]) idle_find_Union fun C hC => ?_
 by_cases h1:A.shape.length > 1
 ·rw [if_pos (.inl h1)]
  refine wk5 ?_
  intro ds
  refine wk5 ?_
  exact fin
 by_cases h2:B.shape.length > 1
 ·rw [if_pos (.inr h2)]
  refine wk5 ?_
  intro ds
  refine wk5 ?_
  exact fin
 rw [if_neg (by omega)]
 by_cases h3:A.cells.length+T.length > 2048
 ·rw [if_pos h3]
  refine wk5 ?_
  intro ds
  refine wk5 ?_
  exact fin
 ·rw [if_neg h3]
  rw [← hap] at c2
  refine wk5 ?_
  intro ds
  refine wk5 ?_
  exact fin
def upL (l x y:Nat):Prop:=x ||| y=y∧y ||| (x ||| l)=x ||| l
theorem upL_refl (l x:Nat):upL l x x:=⟨Nat.or_self x,by rw [← Nat.or_assoc,Nat.or_self]⟩
theorem upL_cov (l x:Nat):upL l x (x ||| l):=⟨by rw [← Nat.or_assoc,Nat.or_self],Nat.or_self _⟩
theorem upL_or {l a b c d:Nat} (h:upL l a b) (g:upL l c d):upL l (a ||| c) (b ||| d):=by
 obtain ⟨h1,h2⟩:=h
 obtain ⟨g1,g2⟩:=g
 constructor<;>apply Nat.eq_of_testBit_eq<;>intro i
 ·have e1:=congrArg (fun n=>n.testBit i) h1
  have e2:=congrArg (fun n=>n.testBit i) g1
  simp only [Nat.testBit_or] at e1 e2 ⊢
  revert e1 e2
  cases a.testBit i<;>cases b.testBit i<;>cases c.testBit i<;>cases d.testBit i<;>simp
 ·have e1:=congrArg (fun n=>n.testBit i) h2
  have e2:=congrArg (fun n=>n.testBit i) g2
  simp only [Nat.testBit_or] at e1 e2 ⊢
  revert e1 e2
  cases a.testBit i<;>cases b.testBit i<;>cases c.testBit i<;>cases d.testBit i<;>cases l.testBit i<;>simp
mutual
def upA (l:Nat):Arr→Arr→Prop
 | .mk s sh cs,.mk s' sh' cs'=>upL l s s'∧sh=sh'∧upCs l cs cs'
def upCs (l:Nat):List Cell→List Cell→Prop
 | [],[]=>True
 | c::cs,d::ds=>upC l c d∧upCs l cs ds
 | _,_=>False
def upC (l:Nat):Cell→Cell→Prop
 | .mk a k n c ins,.mk a' k' n' c' ins'=>upL l a a'∧k=k'∧n=n'∧c=c'∧upAs l ins ins'
def upAs (l:Nat):List Arr→List Arr→Prop
 | [],[]=>True
 | a::us,b::vs=>upA l a b∧upAs l us vs
 | _,_=>False
end
theorem upA_iff {l:Nat} {A B:Arr}:upA l A B↔upL l A.s B.s∧A.shape=B.shape∧upCs l A.cells B.cells:=by cases A; cases B; rw [upA]; exact Iff.rfl
theorem upC_iff {l:Nat} {c d:Cell}:upC l c d↔upL l c.l d.l∧c.kind=d.kind∧c.n=d.n∧c.c=d.c∧upAs l c.ins d.ins:=by cases c; cases d; rw [upC]; exact Iff.rfl
mutual
theorem upA_refl (l:Nat):∀ A:Arr,upA l A A
 | .mk s sh cs=>by rw [upA]; exact ⟨upL_refl l s,rfl,upCs_refl l cs⟩
theorem upCs_refl (l:Nat):∀ cs:List Cell,upCs l cs cs
 | []=>by rw [upCs]; trivial
 | c::cs=>by rw [upCs]; exact ⟨upC_refl l c,upCs_refl l cs⟩
theorem upC_refl (l:Nat):∀ c:Cell,upC l c c
 | .mk a k n c ins=>by rw [upC]; exact ⟨upL_refl l a,rfl,rfl,rfl,upAs_refl l ins⟩
theorem upAs_refl (l:Nat):∀ us:List Arr,upAs l us us
 | []=>by rw [upAs]; trivial
 | a::us=>by rw [upAs]; exact ⟨upA_refl l a,upAs_refl l us⟩
end
mutual
theorem upA_cov (l:Nat):∀ A:Arr,upA l A (relabA (covG l) A)
 | .mk s sh cs=>by rw [relabA,upA]; exact ⟨upL_cov l s,rfl,upCs_cov l cs⟩
theorem upCs_cov (l:Nat):∀ cs:List Cell,upCs l cs (relabCs (covG l) cs)
 | []=>by rw [relabCs,upCs]; trivial
 | c::cs=>by rw [relabCs,upCs]; exact ⟨upC_cov l c,upCs_cov l cs⟩
theorem upC_cov (l:Nat):∀ c:Cell,upC l c (relabC (covG l) c)
 | .mk a k n c ins=>by rw [relabC,upC]; exact ⟨upL_cov l a,rfl,rfl,rfl,upAs_cov l ins⟩
theorem upAs_cov (l:Nat):∀ us:List Arr,upAs l us (relabAs (covG l) us)
 | []=>by rw [relabAs,upAs]; trivial
 | a::us=>by rw [relabAs,upAs]; exact ⟨upA_cov l a,upAs_cov l us⟩
end
mutual
theorem upA_eqv {l:Nat}:∀ {A B:Arr},upA l A B→eqvA false A B=true
 | .mk s sh cs,.mk s' sh' cs',h=>by
   rw [upA] at h
   obtain ⟨_,rfl,h3⟩:=h
   rw [eqvA,upCs_eqv h3,intsP_eq]; simp
theorem upCs_eqv {l:Nat}:∀ {cs ds:List Cell},upCs l cs ds→eqvCs false cs ds=true
 | [],[],_=>by rw [eqvCs]
 | c::cs,d::ds,h=>by
   rw [upCs] at h
   rw [eqvCs,upC_eqv h.1,upCs_eqv h.2]; rfl
 | [],_::_,h=>by simp [upCs] at h
 | _::_,[],h=>by simp [upCs] at h
theorem upC_eqv {l:Nat}:∀ {c d:Cell},upC l c d→eqvC false c d=true
 | .mk a k n c ins,.mk a' k' n' c' ins',h=>by
   rw [upC] at h
   obtain ⟨_,rfl,rfl,rfl,h3⟩:=h
   rw [eqvC,upAs_eqv h3,(numP_iff n n).2 rfl]; simp
theorem upAs_eqv {l:Nat}:∀ {us vs:List Arr},upAs l us vs→eqvAs false us vs=true
 | [],[],_=>by rw [eqvAs]
 | c::cs,d::ds,h=>by
   rw [upAs] at h
   rw [eqvAs,upA_eqv h.1,upAs_eqv h.2]; rfl
 | [],_::_,h=>by simp [upAs] at h
 | _::_,[],h=>by simp [upAs] at h
end
mutual
theorem upA_tot {l:Nat}:∀ {A B:Arr},upA l A B→upL l (totA A) (totA B)
 | .mk s sh cs,.mk s' sh' cs',h=>by
   rw [upA] at h
   rw [totA,totA]; exact upCs_tot h.2.2 h.1
theorem upCs_tot {l:Nat}:∀ {cs ds:List Cell} {m n:Nat},upCs l cs ds→upL l m n→upL l (totCs cs m) (totCs ds n)
 | [],[],m,n,_,g=>by rw [totCs,totCs]; exact g
 | c::cs,d::ds,m,n,h,g=>by
   rw [upCs] at h
   rw [totCs,totCs]; exact upCs_tot h.2 (upC_tot h.1 g)
 | [],_::_,_,_,h,_=>by simp [upCs] at h
 | _::_,[],_,_,h,_=>by simp [upCs] at h
theorem upC_tot {l:Nat}:∀ {c d:Cell} {m n:Nat},upC l c d→upL l m n→upL l (totC c m) (totC d n)
 | .mk a k n c ins,.mk a' k' n' c' ins',p,q,h,g=>by
   rw [upC] at h
   rw [totC,totC]; exact upAs_tot h.2.2.2.2 (upL_or g h.1)
theorem upAs_tot {l:Nat}:∀ {us vs:List Arr} {m n:Nat},upAs l us vs→upL l m n→upL l (totAs us m) (totAs vs n)
 | [],[],m,n,_,g=>by rw [totAs,totAs]; exact g
 | c::cs,d::ds,m,n,h,g=>by
   rw [upAs] at h
   rw [totAs,totAs]; exact upAs_tot h.2 (upL_or g (upA_tot h.1))
 | [],_::_,_,_,h,_=>by simp [upAs] at h
 | _::_,[],_,_,h,_=>by simp [upAs] at h
end
theorem upCs_iff {l:Nat}:∀ {cs ds:List Cell},upCs l cs ds↔cs.length=ds.length∧∀ i,upC l (cs.getD i cellD) (ds.getD i cellD)
 | [],[]=>⟨fun _=>⟨rfl,fun i=>by simpa using upC_refl l cellD⟩,fun _=>by simp [upCs]⟩
 | [],d::ds=>by simp [upCs]
 | c::cs,[]=>by simp [upCs]
 | c::cs,d::ds=>by
   rw [upCs,upCs_iff (cs:=cs) (ds:=ds)]
   constructor
   ·rintro ⟨h1,h2,h3⟩
    refine ⟨by simpa using h2,fun i => ?_⟩
    cases i with
    | zero=>simpa using h1
    | succ i=>simpa using h3 i
   ·rintro ⟨h1,h2⟩
    refine ⟨by simpa using h2 0,by simpa using h1,fun i=>by simpa using h2 (i+1)⟩
theorem upCs_len {l:Nat} {cs ds:List Cell} (h:upCs l cs ds):cs.length=ds.length:=(upCs_iff.1 h).1
theorem upCs_get {l:Nat} {cs ds:List Cell} (h:upCs l cs ds) (i:Nat):upC l (cs.getD i cellD) (ds.getD i cellD):=(upCs_iff.1 h).2 i
theorem upCs_map {l:Nat} {α:Type} (f g:α→Cell):∀ (xs:List α),(∀ x ∈ xs,upC l (f x) (g x))→upCs l (xs.map f) (xs.map g)
 | [],_=>by rw [List.map_nil,List.map_nil,upCs]; trivial
 | x::xs,h=>by rw [List.map_cons,List.map_cons,upCs]; exact ⟨h x (List.mem_cons_self ..),upCs_map f g xs fun y hy=>h y (List.mem_cons_of_mem _ hy)⟩
theorem upCs_app {l:Nat}:∀ {us vs cs ds:List Cell},upCs l us vs→upCs l cs ds→upCs l (us++cs) (vs++ds)
 | [],[],_,_,_,h=>h
 | a::us,b::vs,_,_,h,g=>by rw [upCs] at h; rw [List.cons_append,List.cons_append,upCs]; exact ⟨h.1,upCs_app h.2 g⟩
 | [],_::_,_,_,h,_=>by simp [upCs] at h
 | _::_,[],_,_,h,_=>by simp [upCs] at h
def eraG (_:Nat):Nat:=0
mutual
theorem eqvA_era:∀ (A B:Arr),eqvA false A B=true↔relabA eraG A=relabA eraG B
 | .mk s sh cs,.mk s' sh' cs'=>by
   have h:=eqvCs_era cs cs'
   rw [eqvA,relabA,relabA,intsP_eq]
   simp only [Bool.not_false,Bool.true_or,Bool.true_and,Bool.and_eq_true,decide_eq_true_eq,Arr.mk.injEq,h,eraG,true_and]
theorem eqvCs_era:∀ (cs ds:List Cell),eqvCs false cs ds=true↔relabCs eraG cs=relabCs eraG ds
 | [],[]=>by rw [eqvCs]; simp
 | c::cs,d::ds=>by
   have h1:=eqvC_era c d
   have h2:=eqvCs_era cs ds
   rw [eqvCs,relabCs,relabCs,Bool.and_eq_true,List.cons.injEq,h1,h2]
 | [],d::ds=>by simp [eqvCs,relabCs]
 | c::cs,[]=>by simp [eqvCs,relabCs]
theorem eqvC_era:∀ (c d:Cell),eqvC false c d=true↔relabC eraG c=relabC eraG d
 | .mk a k n c ins,.mk a' k' n' c' ins'=>by
   have h:=eqvAs_era ins ins'
   rw [eqvC,relabC,relabC]
   simp only [Bool.not_false,Bool.true_or,Bool.true_and,Bool.and_eq_true,beq_iff_eq,Cell.mk.injEq,h,numP_iff,eraG,true_and]
   constructor
   ·rintro ⟨h1,h2,h3,h4⟩; exact ⟨h1,h3,h2,h4⟩
   ·rintro ⟨h1,h3,h2,h4⟩; exact ⟨h1,h2,h3,h4⟩
theorem eqvAs_era:∀ (us vs:List Arr),eqvAs false us vs=true↔relabAs eraG us=relabAs eraG vs
 | [],[]=>by rw [eqvAs]; simp
 | c::cs,d::ds=>by
   have h1:=eqvA_era c d
   have h2:=eqvAs_era cs ds
   rw [eqvAs,relabAs,relabAs,Bool.and_eq_true,List.cons.injEq,h1,h2]
 | [],d::ds=>by simp [eqvAs,relabAs]
 | c::cs,[]=>by simp [eqvAs,relabAs]
end
theorem eqvC_congr {c c' d d':Cell} (h:eqvC false c c'=true) (g:eqvC false d d'=true):eqvC false c d=eqvC false c' d':=by
 rw [Bool.eq_iff_iff,eqvC_era,eqvC_era,(eqvC_era c c').1 h,(eqvC_era d d').1 g]
theorem eqvA_congr {c c' d d':Arr} (h:eqvA false c c'=true) (g:eqvA false d d'=true):eqvA false c d=eqvA false c' d':=by
 rw [Bool.eq_iff_iff,eqvA_era,eqvA_era,(eqvA_era c c').1 h,(eqvA_era d d').1 g]
theorem eqvC_self (c:Cell):eqvC false c c=true:=(eqvC_era c c).2 rfl
theorem eqvCs_iff {cs ds:List Cell}:eqvCs false cs ds=true↔cs.length=ds.length∧∀ i,eqvC false (cs.getD i cellD) (ds.getD i cellD)=true:=by
 induction cs generalizing ds with
 | nil =>
   cases ds with
   | nil=>simp [eqvCs,eqvC_self]
   | cons d ds=>simp [eqvCs]
 | cons c cs ih =>
   cases ds with
   | nil=>simp [eqvCs]
   | cons d ds =>
     rw [eqvCs,Bool.and_eq_true,ih]
     constructor
     ·rintro ⟨h1,h2,h3⟩
      refine ⟨by simpa using h2,fun i => ?_⟩
      cases i with
      | zero=>simpa using h1
      | succ i=>simpa using h3 i
     ·rintro ⟨h1,h2⟩
      exact ⟨by simpa using h2 0,by simpa using h1,fun i=>by simpa using h2 (i+1)⟩
theorem firstF_eqv {L M:List Cell} (h:eqvCs false L M=true) {c d:Cell} (g:eqvC false c d=true):∀ is:List Int,firstF L c is=firstF M d is
 | []=>rfl
 | i::is=>by
   rw [firstF,firstF,eqvC_congr g ((eqvCs_iff.1 h).2 i.toNat),firstF_eqv h g is]
theorem plcF_eqv {L M:List Cell} (h:eqvCs false L M=true) (k:Int):plcF L k=plcF M k:=by
 unfold plcF
 rw [(eqvCs_iff.1 h).1]
 congr 1
 refine List.filter_congr fun i _ => ?_
 rw [markC_eqv _ _ 0 ((eqvCs_iff.1 h).2 i)]
theorem placeP_eqv {L M:List Cell} (h:eqvCs false L M=true) {c d:Cell} (g:eqvC false c d=true):placeP L c=placeP M d:=by
 unfold placeP
 rw [markC_eqv _ _ 0 g,plcF_eqv h,firstF_eqv h g]
end Go.Proofs.YtnnipocjapblkaaGreat
