/- Arrays put together: the plain law. -/
import Derived.Test.YtnnipocjapblkaaGreatK07
import Derived.Test.YtnnipocjapblkaaGreatK20
import Derived.Test.YtnnipocjapblkaaGreatK03
import Derived.Test.YtnnipocjapblkaaGreatK04
import Derived.Test.YtnnipocjapblkaaGreatK06
import Derived.Test.YtnnipocjapblkaaGreatK08
set_option maxHeartbeats 2000000
namespace Go.Proofs.YtnnipocjapblkaaGreat
set_option linter.unusedVariables false
open Go.RowKit
def wout (s:List Int) (x:Nat):List Int:=s.take x++s.drop (x+1)
theorem wout_get (s:List Int) (x j:Nat) (hj:j≠x) (hx:x<s.length):s[j]? = (wout s x)[if j<x then j else j - 1]? := by
 unfold wout
 by_cases h:j<x
 ·rw [if_pos h,List.getElem?_append_left (by simp; omega),List.getElem?_take,if_pos h]
 ·rw [if_neg h,List.getElem?_append_right (by simp; omega),List.getElem?_drop]
  congr 1
  simp
  omega
theorem wout_eq {s t:List Int} {x:Nat} (hl:s.length=t.length) (hx:x<s.length):wout s x=wout t x↔∀ j,j≠x→s[j]? = t[j]? := by
 constructor
 ·intro h j hj
  rw [wout_get s x j hj hx,wout_get t x j hj (by omega),h]
 ·intro h
  unfold wout
  congr 1
  ·apply List.ext_getElem?
   intro i
   rw [List.getElem?_take,List.getElem?_take]
   split
   ·exact h i (by omega)
   ·rfl
  ·apply List.ext_getElem?
   intro i
   rw [List.getElem?_drop,List.getElem?_drop]
   exact h _ (by omega)
def rowL (al:Bool) (cs:List Cell) (i n:Nat):List Cell:=if al then List.replicate n (cs.getD 0 cellD) else (cs.drop (i * n)).take n
def cellP (al:Bool) (cs:List Cell) (k:Nat):Cell:=cs.getD (if al then 0 else k) cellD
theorem rowL_map (al:Bool) (cs:List Cell) (i n:Nat) (h:al=false→i * n+n≤cs.length):rowL al cs i n=(List.range n).map fun r=>cellP al cs (i * n+r):=by
 unfold rowL cellP
 cases al
 ·simp only [Bool.false_eq_true,if_false]
  have h:=h rfl
  apply List.ext_getElem
  ·simp; omega
  ·intro k h1 h2
   simp only [List.length_map,List.length_range] at h2
   rw [List.getElem_take,List.getElem_drop,List.getElem_map,List.getElem_range]
   rw [List.getD_eq_getElem?_getD,List.getElem?_eq_getElem (by omega)]
   rfl
 ·simp only [if_true]
  apply List.ext_getElem
  ·simp
  ·intro k h1 h2
   simp
def catC (n1 n2:Nat) (a1:Bool) (c1:List Cell) (a2:Bool) (c2:List Cell) (p:Nat):Cell :=
 if p % (n1+n2)<n1 then cellP a1 c1 (p / (n1+n2) * n1+p % (n1+n2)) else cellP a2 c2 (p / (n1+n2) * n2+(p % (n1+n2) - n1))
def catL (n1 n2:Nat) (a1:Bool) (c1:List Cell) (a2:Bool) (c2:List Cell) (m:Nat):List Cell:=(List.range m).map (catC n1 n2 a1 c1 a2 c2)
theorem catL_len (n1 n2:Nat) (a1:Bool) (c1:List Cell) (a2:Bool) (c2:List Cell) (m:Nat):(catL n1 n2 a1 c1 a2 c2 m).length=m:=by simp [catL]
theorem catL_step (n1 n2:Nat) (a1:Bool) (c1:List Cell) (a2:Bool) (c2:List Cell) (i:Nat) (h1:a1=false→i * n1+n1≤c1.length) (h2:a2=false→i * n2+n2≤c2.length) :
 catL n1 n2 a1 c1 a2 c2 (i * (n1+n2))++rowL a1 c1 i n1++rowL a2 c2 i n2=catL n1 n2 a1 c1 a2 c2 ((i+1) * (n1+n2)):=by
 rw [rowL_map a1 c1 i n1 h1,rowL_map a2 c2 i n2 h2]
 unfold catL
 rw [Nat.add_mul,Nat.one_mul,List.range_add,List.map_append,List.append_assoc]
 congr 1
 rw [List.range_add,List.map_append,List.map_append]
 congr 1
 ·rw [List.map_map]
  apply List.map_congr_left
  intro r hr
  rw [List.mem_range] at hr
  have e1:(i * (n1+n2)+r) % (n1+n2)=r:=by rw [Nat.add_comm,Nat.add_mul_mod_self_right,Nat.mod_eq_of_lt (by omega)]
  have e2:(i * (n1+n2)+r) / (n1+n2)=i:=by rw [Nat.add_comm,Nat.add_mul_div_right _ _ (by omega),Nat.div_eq_of_lt (by omega),Nat.zero_add]
  simp only [Function.comp,catC,e1,e2,if_pos hr]
 ·rw [List.map_map,List.map_map]
  apply List.map_congr_left
  intro r hr
  rw [List.mem_range] at hr
  have e1:(i * (n1+n2)+(n1+r)) % (n1+n2)=n1+r:=by rw [Nat.add_comm,Nat.add_mul_mod_self_right,Nat.mod_eq_of_lt (by omega)]
  have e2:(i * (n1+n2)+(n1+r)) / (n1+n2)=i:=by rw [Nat.add_comm,Nat.add_mul_div_right _ _ (by omega),Nat.div_eq_of_lt (by omega),Nat.zero_add]
  simp only [Function.comp,catC,e1,e2,if_neg (show ¬ n1+r<n1 by omega),Nat.add_sub_cancel_left]
def blkV (s:List Int) (cs:List Cell) (al:Bool):List AV:=[.sl 1 (intsA .i64 s),.sl 7 (cs.map cellR),.lit (.bool al)]
def widP (sh other:List Int) (axes axis:Nat):Option (List Int × Bool) :=
 if sh.length=axes then some (sh,false)
 else if sh=[] then (if other=[] then some ([1],true) else some (other.set axis 1,true))
 else if sh.length+1=axes then some (sh.take axis++1::sh.drop axis,false)
 else none
theorem widen_same (A:Arr) (other:List Int) (axes axis:Nat) (hl:A.shape.length≤6) (h1:A.shape.length=axes) :
 ACalls Tryz.prog 131 [.agg (arrV A),.sl 1 (intsA .i64 other),.lit (.int .i64 axes),.lit (.int .i64 axis)] (.tup [.agg (blkV A.shape A.cells false),.lit (.bool true)]):=by
 have ls:=intsA_len .i64 A.shape
 have hb:(0+(intsA .i64 A.shape).length) * 8≤140737488355328:=by omega
 refine acalls_of code_join_widen (by simp [fn_join_widen]) fun C hC => ?_
 refine walk2 ?_
 exact fin
theorem widen_none (A:Arr) (other:List Int) (axes axis:Nat) (hl:A.shape.length≤6) (h6:axes≤6) (h1:A.shape.length≠axes) (h2:A.shape.length≠0) (h3:A.shape.length+1≠axes) :
 ACalls Tryz.prog 131 [.agg (arrV A),.sl 1 (intsA .i64 other),.lit (.int .i64 axes),.lit (.int .i64 axis)] (.tup [.agg [.sl 1 [],.sl 7 [],.lit (.bool false)],.lit (.bool false)]):=by
 have ls:=intsA_len .i64 A.shape
 refine acalls_of code_join_widen (by simp [fn_join_widen]) fun C hC => ?_
 refine walk2 ?_
 exact fin
theorem widen_less (A:Arr) (other:List Int) (axes axis:Nat) (hl:A.shape.length≤6) (h6:axes≤6) (h2:A.shape.length≠0) (h3:A.shape.length+1=axes) (hx:axis<axes) :
 ACalls Tryz.prog 131 [.agg (arrV A),.sl 1 (intsA .i64 other),.lit (.int .i64 axes),.lit (.int .i64 axis)] (.tup [.agg (blkV (A.shape.take axis++1::A.shape.drop axis) A.cells false),.lit (.bool true)]):=by
 have ls:=intsA_len .i64 A.shape
 have k1:=Cut.upto (k:=.i64) (s:=A.shape) (b:=axis) (by omega)
 have k2:=Cut.from (k:=.i64) (s:=A.shape) (a:=axis) (by omega)
 have l1:=intsA_len .i64 (A.shape.take axis)
 have l2:=intsA_len .i64 (A.shape.drop axis)
 rw [List.length_take] at l1
 rw [List.length_drop] at l2
 have hb1:(0+(intsA .i64 (A.shape.take axis)).length) * 8≤140737488355328:=by omega
 have hb2:((intsA .i64 (A.shape.take axis)).length+1) * 8≤140737488355328:=by omega
 have hb3:((intsA .i64 (A.shape.take axis)).length+1+(intsA .i64 (A.shape.drop axis)).length) * 8≤140737488355328:=by omega
 refine acalls_of code_join_widen (by simp [fn_join_widen]) fun C hC => ?_
 refine walk2 ?_
 unfold blkV
 rw [show intsA .i64 (A.shape.take axis++1::A.shape.drop axis)=(intsA .i64 (A.shape.take axis)++[[.lit (.int .i64 1)]])++intsA .i64 (A.shape.drop axis) from by simp [intsA]]
 exact fin
theorem widen_zero1 (A:Arr) (axis:Nat) (h2:A.shape=[]) :
 ACalls Tryz.prog 131 [.agg (arrV A),.sl 1 (intsA .i64 []),.lit (.int .i64 1),.lit (.int .i64 axis)] (.tup [.agg (blkV [1] A.cells true),.lit (.bool true)]):=by
 have ls:=intsA_len .i64 A.shape
 rw [h2] at ls
 refine acalls_of code_join_widen (by simp [fn_join_widen]) fun C hC => ?_
 unfold arrV
 rw [h2]
 refine walk2 ?_
 exact fin
theorem widen_zero (A:Arr) (other:List Int) (axes axis:Nat) (h6:axes≤6) (h2:A.shape=[]) (h3:other.length=axes) (hx:axis<axes) :
 ACalls Tryz.prog 131 [.agg (arrV A),.sl 1 (intsA .i64 other),.lit (.int .i64 axes),.lit (.int .i64 axis)] (.tup [.agg (blkV (other.set axis 1) A.cells true),.lit (.bool true)]):=by
 have ls:(((intsA .i64 []).length:Nat):Int)=0:=rfl
 have lo:=intsA_len .i64 other
 obtain ⟨z,hz⟩:∃ z,other[axis]? = some z:=⟨_,List.getElem?_eq_getElem (by omega)⟩
 have hzk:([]++intsA .i64 other)[((axis:Nat):Int).toNat]? = some [.lit (.int .i64 z)]:=int_at (k:=.i64) hz
 have hset:=intsA_set .i64 other axis 1
 have hb:(0+(intsA .i64 other).length) * 8≤140737488355328:=by omega
 refine acalls_of code_join_widen (by simp [fn_join_widen]) fun C hC => ?_
 unfold arrV
 rw [h2]
 refine walk2 ?_
 unfold blkV
 rw [← hset]
 exact fin
def pairV (s:List Int) (cs:List Cell) (al:Bool) (t:List Int) (ds:List Cell) (bl:Bool) (x:Nat):List AV:=[.sl 1 (intsA .i64 s),.sl 7 (cs.map cellR),.lit (.bool al),.sl 1 (intsA .i64 t),.sl 7 (ds.map cellR),.lit (.bool bl),.lit (.int .i64 (x:Nat))]
def axN (A B:Arr):Nat:=max (max A.shape.length B.shape.length) 1
def atN (A B:Arr) (first:Bool):Nat:=if first then 0 else axN A B - 1
theorem widen_a (A B:Arr) (hl:A.shape.length≤6) (hm:B.shape.length≤6) (n x:Nat) (hn:n=axN A B) (hx:x<n) :
 (∀ s al,widP A.shape B.shape n x=some (s,al)→ACalls Tryz.prog 131 [.agg (arrV A),.sl 1 (intsA .i64 B.shape),.lit (.int .i64 n),.lit (.int .i64 x)] (.tup [.agg (blkV s A.cells al),.lit (.bool true)])) ∧
  (widP A.shape B.shape n x=none→ACalls Tryz.prog 131 [.agg (arrV A),.sl 1 (intsA .i64 B.shape),.lit (.int .i64 n),.lit (.int .i64 x)] (.tup [.agg [.sl 1 [],.sl 7 [],.lit (.bool false)],.lit (.bool false)])):=by
 have hn1:A.shape.length≤n∧B.shape.length≤n∧1≤n∧n≤6∧(A.shape.length=0→B.shape.length=0→n=1)∧(A.shape.length=0→B.shape.length≠0→n=B.shape.length):=by unfold axN at hn; omega
 unfold widP
 by_cases h1:A.shape.length=n
 ·rw [if_pos h1]
  refine ⟨fun s al h => ?_,fun h=>by cases h⟩
  simp only [Option.some.injEq,Prod.mk.injEq] at h
  obtain ⟨rfl,rfl⟩:=h
  exact widen_same A B.shape n x hl h1
 ·rw [if_neg h1]
  by_cases h2:A.shape=[]
  ·rw [if_pos h2]
   have hA0:A.shape.length=0:=by rw [h2]; rfl
   by_cases h3:B.shape=[]
   ·rw [if_pos h3]
    refine ⟨fun s al h => ?_,fun h=>by cases h⟩
    simp only [Option.some.injEq,Prod.mk.injEq] at h
    obtain ⟨rfl,rfl⟩:=h
    have e:n=1:=hn1.2.2.2.2.1 hA0 (by rw [h3]; rfl)
    rw [h3,e]
    exact widen_zero1 A x h2
   ·rw [if_neg h3]
    refine ⟨fun s al h => ?_,fun h=>by cases h⟩
    simp only [Option.some.injEq,Prod.mk.injEq] at h
    obtain ⟨rfl,rfl⟩:=h
    have e:n=B.shape.length:=hn1.2.2.2.2.2 hA0 (fun h=>h3 (List.eq_nil_of_length_eq_zero h))
    exact widen_zero A B.shape n x (by omega) h2 e.symm hx
  ·rw [if_neg h2]
   have h2':A.shape.length≠0:=fun h=>h2 (List.eq_nil_of_length_eq_zero h)
   by_cases h3:A.shape.length+1=n
   ·rw [if_pos h3]
    refine ⟨fun s al h => ?_,fun h=>by cases h⟩
    simp only [Option.some.injEq,Prod.mk.injEq] at h
    obtain ⟨rfl,rfl⟩:=h
    exact widen_less A B.shape n x hl (by omega) h2' h3 hx
   ·rw [if_neg h3]
    exact ⟨fun s al h=>(by cases h),fun _=>widen_none A B.shape n x hl (by omega) h1 h2' h3⟩
theorem axN_comm (A B:Arr):axN A B=axN B A:=by unfold axN; omega
def zPair:AV:=.agg [.sl 1 [],.sl 7 [],.lit (.bool false),.sl 1 [],.sl 7 [],.lit (.bool false),.lit (.int .i64 0)]
theorem fit_a (A B:Arr) (first:Bool) (hl:A.shape.length≤6) (hm:B.shape.length≤6) :
 ACalls Tryz.prog 61 [.agg (arrV A),.agg (arrV B),.lit (.bool first)] (match widP A.shape B.shape (axN A B) (atN A B first),widP B.shape A.shape (axN A B) (atN A B first) with
  | some (s,al),some (t,bl)=>.tup [.agg (pairV s A.cells al t B.cells bl (atN A B first)),.lit (.int .i64 0)]
  | _,_=>.tup [zPair,.lit (.int .i64 5)]):=by
 have ls:=intsA_len .i64 A.shape
 have lt:=intsA_len .i64 B.shape
 have hx:atN A B first<axN A B:=by unfold atN axN; split<;>omega
 have w1:=widen_a A B hl hm (axN A B) (atN A B first) rfl hx
 have w2:=widen_a B A hm hl (axN A B) (atN A B first) (axN_comm A B) hx
 have hmx:max (max (A.shape.length:Int) (B.shape.length:Int)) 1=((axN A B:Nat):Int):=by unfold axN; omega
 have hax:axN A B≤6:=by unfold axN; omega
 have hpos:1≤axN A B:=by unfold axN; omega
 have key:∀ x:Nat,x=atN A B first→((x:Nat):Int)=if first then 0 else ((axN A B:Nat):Int) - 1:=fun x hx=>by
  rw [hx]; unfold atN; cases first
  ·simp; omega
  ·simp
 have hk:=key _ rfl
 generalize axN A B=n at *
 generalize atN A B first=x at *
 cases h1:widP A.shape B.shape n x with
 | none =>
   have c1:=w1.2 h1
   rw [hk] at c1
   refine acalls_of code_join_fit (by simp [fn_join_fit]) fun C hC => ?_
   cases first
   ·simp only [Bool.false_eq_true,if_false] at c1
    refine walk2 ?_
    exact fin
   ·simp only [if_true] at c1
    refine walk2 ?_
    exact fin
 | some p =>
   obtain ⟨s,al⟩:=p
   have c1:=w1.1 s al h1
   cases h2:widP B.shape A.shape n x with
   | none =>
     have c2:=w2.2 h2
     rw [hk] at c1 c2
     refine acalls_of code_join_fit (by simp [fn_join_fit]) fun C hC => ?_
     cases first
     ·simp only [Bool.false_eq_true,if_false] at c1 c2
      refine walk2 ?_
      exact fin
     ·simp only [if_true] at c1 c2
      refine walk2 ?_
      exact fin
   | some q =>
     obtain ⟨t,bl⟩:=q
     have c2:=w2.1 t bl h2
     refine acalls_of code_join_fit (by simp [fn_join_fit]) fun C hC => ?_
     unfold pairV
     rw [hk] at c1 c2 ⊢
     cases first
     ·simp only [Bool.false_eq_true,if_false] at c1 c2 ⊢
      refine walk2 ?_
      exact fin
     ·simp only [if_true] at c1 c2 ⊢
      refine walk2 ?_
      exact fin
theorem row_alone (s:List Int) (cs:List Cell) (es:List (List AV)) (i n:Nat) (c:Cell) (hc:cs[0]? = some c) (hn:n≤1000000000) (he:es.length≤100000000000) (hi:i≤1000000000) :
 AMut Tryz.prog 133 [.agg (blkV s cs true),.own 0,.lit (.int .i64 i),.lit (.int .i64 n)] [(0,some ⟨true,false,54,7,es⟩)] 1 (.own 1) [(1,some ⟨true,false,54,7,es++(rowL true cs i n).map cellR⟩),(0,none)] 2:=by
 have e:(rowL true cs i n).map cellR=List.replicate n (cellV c):=by
  unfold rowL
  rw [if_pos rfl,List.map_replicate,List.getD_eq_getElem?_getD,hc]
  simp [cellR_eq]
 rw [e]
 have hcv:(cs.map cellR)[(0:Int).toNat]? = some (cellV c):=cell_at hc
 have hcl:0<((cs.map cellR).length:Int):=by
  have:=(List.getElem?_eq_some_iff.1 hc).1
  simp; omega
 refine amut_of code_join_block_row (by simp [fn_join_block_row]) fun C hC => ?_
 refine walk2 ?_
 refine aw_name 1 0 rfl rfl rfl rfl ?_
 refine aw_loopB [4,25] [0,1] (fun k:Nat=>[(1,.own 2),(26,.lit (.int .i64 k))]) (fun k=>[(2,some ⟨true,false,54,7,es++List.replicate k (cellV c)⟩)]) 3 (fun k=>k≤n) (fun k=>n - k) 0 (Nat.zero_le _) ?_ (hh:=by rw [List.replicate_zero,List.append_nil]; rfl)
 rintro k hk
 dsimp only [List.cons_append,List.nil_append]
 have hlr:(es++List.replicate k (cellV c)).length=es.length+k:=by simp
 have hrs:(es++List.replicate k (cellV c))++[cellV c]=es++List.replicate (k+1) (cellV c):=by rw [List.append_assoc,List.replicate_succ']
 by_cases hkn:k<n
 ·generalize es++List.replicate k (cellV c)=Y at hlr hrs ⊢
  refine walk2 ?_
  refine ⟨k+1,by omega,by omega,wkR hC.m [(2,4)] ?_⟩
  rw [← hrs]
  rfl
 ·have h0:n=k:=by omega
  subst h0
  refine walk2 ?_
  exact fin_m [(1,2)]
theorem row_plain (s:List Int) (cs:List Cell) (es:List (List AV)) (i n:Nat) (hn:n≤1000000000) (he:es.length≤100000000000) (hi:i≤1000000000) (h:i * n+n≤cs.length) (hcb:cs.length≤1000000000) :
 AMut Tryz.prog 133 [.agg (blkV s cs false),.own 0,.lit (.int .i64 i),.lit (.int .i64 n)] [(0,some ⟨true,false,54,7,es⟩)] 1 (.own 1) [(1,some ⟨true,false,54,7,es++(rowL false cs i n).map cellR⟩),(0,none)] 2:=by
 unfold rowL
 rw [if_neg (by simp)]
 have hk:=Cut.map (f:=cellR) (s:=cs) (a:=i * n) (b:=i * n+n) (by omega) h
 rw [Nat.add_sub_cancel_left] at hk
 generalize hY:((cs.drop (i * n)).take n).map cellR=Y at hk ⊢
 have hYl:Y.length≤n:=by rw [← hY]; simp; omega
 have hb:(es.length+Y.length) * 104≤140737488355328:=by omega
 have hm : -9223372036854775808≤(i:Int) * n∧(i:Int) * n≤9223372036854775807:=by rw [← Int.natCast_mul]; omega
 have hm2 : -9223372036854775808≤(i:Int) * n+n∧(i:Int) * n+n≤9223372036854775807:=by rw [← Int.natCast_mul]; omega
 refine amut_of code_join_block_row (by simp [fn_join_block_row]) fun C hC => ?_
 refine walk2 ?_
 exact fin_m [(1,2)]
theorem row_m (s:List Int) (cs:List Cell) (es:List (List AV)) (al:Bool) (i n:Nat) (hn:n≤1000000000) (he:es.length≤100000000000) (hi:i≤1000000000) (h:al=false→i * n+n≤cs.length) (h':al=true→0<cs.length) (hcb:cs.length≤1000000000) :
 AMut Tryz.prog 133 [.agg (blkV s cs al),.own 0,.lit (.int .i64 i),.lit (.int .i64 n)] [(0,some ⟨true,false,54,7,es⟩)] 1 (.own 1) [(1,some ⟨true,false,54,7,es++(rowL al cs i n).map cellR⟩),(0,none)] 2:=by
 cases al
 ·exact row_plain s cs es i n hn he hi (h rfl) hcb
 ·exact row_alone s cs es i n _ (List.getElem?_eq_getElem (h' rfl)) hn he hi
theorem rowL_len (al:Bool) (cs:List Cell) (i n:Nat):(rowL al cs i n).length≤n:=by
 unfold rowL; split<;>simp<;>omega
theorem merge_a (s t u:List Int) (cs ds:List Cell) (al bl:Bool) (x n1 n2 A B:Nat) (hs:s[x]? = some (n1:Int)) (ht:t[x]? = some (n2:Int)) (hu:(cnt u).2=0) (hz:u[x]? = some ((n1+n2:Nat):Int))
 (hA:prodC (u.take x) 1=A) (hB:prodC (u.drop (x+1)) 1=B) (bA:A≤2048) (bB:B≤2048) (b1:n1≤2048) (b2:n2≤2048) (hc:al=true→0<cs.length) (hd:bl=true→0<ds.length) (hc2:al=false→A * (n1 * B)≤cs.length) (hd2:bl=false→A * (n2 * B)≤ds.length)
 (hcb:cs.length≤1000000000) (hdb:ds.length≤1000000000) :
 ACalls Tryz.prog 63 [.agg (pairV s cs al t ds bl x),.sl 1 (intsA .i64 u)] (.sl 7 ((catL (n1 * B) (n2 * B) al cs bl ds (A * (n1 * B+n2 * B))).map cellR)):=by
 have ls:=intsA_len .i64 s
 have lt:=intsA_len .i64 t
 have c3:=shAround_a u x _ hu hz
 rw [hA,hB] at c3
 have hsx:(intsA .i64 s)[((x:Nat):Int).toNat]? = some [.lit (.int .i64 (n1:Int))]:=int_at hs
 have htx:(intsA .i64 t)[((x:Nat):Int).toNat]? = some [.lit (.int .i64 (n2:Int))]:=int_at ht
 have lsx:=(List.getElem?_eq_some_iff.1 hs).1
 have ltx:=(List.getElem?_eq_some_iff.1 ht).1
 have m1:n1 * B≤2048 * 2048:=Nat.mul_le_mul b1 bB
 have m2:n2 * B≤2048 * 2048:=Nat.mul_le_mul b2 bB
 have e1:(n1:Int) * B=((n1 * B:Nat):Int):=by simp
 have e2:(n2:Int) * B=((n2 * B:Nat):Int):=by simp
 have hm1 : -9223372036854775808≤(n1:Int) * B∧(n1:Int) * B≤9223372036854775807:=by rw [e1]; omega
 have hm2 : -9223372036854775808≤(n2:Int) * B∧(n2:Int) * B≤9223372036854775807:=by rw [e2]; omega
 have m3:A * (n1 * B+n2 * B)≤2048 * (2048 * 2048+2048 * 2048):=Nat.mul_le_mul bA (by omega)
 have e3:(A:Int) * ((n1:Int) * B+(n2:Int) * B)=((A * (n1 * B+n2 * B):Nat):Int):=by simp
 have hm3 : -9223372036854775808≤(A:Int) * ((n1:Int) * B+(n2:Int) * B)∧(A:Int) * ((n1:Int) * B+(n2:Int) * B)≤9223372036854775807:=by rw [e3]; omega
 have hbm:((104:Nat):Int) * ((A:Int) * ((n1:Int) * B+(n2:Int) * B))≤281474976710656:=by rw [e3]; omega
 have h0m:0≤(A:Int) * ((n1:Int) * B+(n2:Int) * B):=by rw [e3]; omega
 refine acalls_of code_join_pair_merge (by simp [fn_join_pair_merge]) fun C hC => ?_
 unfold pairV
 refine walk2 ?_
 refine aw_slotZ 9 (.lit (.int .i64 ((n1 * B:Nat):Int))) (by show AV.lit (.int .i64 ((n1:Int) * B))=_; rw [e1]) ?_
 refine aw_slotZ 10 (.lit (.int .i64 ((n2 * B:Nat):Int))) (by show AV.lit (.int .i64 ((n2:Int) * B))=_; rw [e2]) ?_
 generalize hN1:n1 * B=N1 at *
 generalize hN2:n2 * B=N2 at *
 refine aw_loopB [2,46,9,10] [0] (fun i:Nat=>[(11,.own 1),(47,.lit (.int .i64 i))]) (fun i=>[(1,some ⟨true,false,54,7,(catL N1 N2 al cs bl ds (i * (N1+N2))).map cellR⟩)]) 2 (fun i=>i≤A) (fun i=>A - i) 0 (Nat.zero_le _) ?_ (hh:=by rw [Nat.zero_mul]; rfl)
 rintro i hi
 dsimp only [List.cons_append,List.nil_append]
 by_cases hil:i<A
 ·have hi1:al=false→i * N1+N1≤cs.length:=fun h=>by
   have h1:=hc2 h
   have h2:(i+1) * N1≤A * N1:=Nat.mul_le_mul_right _ hil
   rw [Nat.add_mul,Nat.one_mul] at h2
   omega
  have hi2:bl=false→i * N2+N2≤ds.length:=fun h=>by
   have h1:=hd2 h
   have h2:(i+1) * N2≤A * N2:=Nat.mul_le_mul_right _ hil
   rw [Nat.add_mul,Nat.one_mul] at h2
   omega
  have hst:=catL_step N1 N2 al cs bl ds i hi1 hi2
  have hcl:((catL N1 N2 al cs bl ds (i * (N1+N2))).map cellR).length≤100000000000:=by
   rw [List.length_map,catL_len]
   have:i * (N1+N2)≤2048 * (N1+N2):=Nat.mul_le_mul_right _ (by omega)
   omega
  generalize hX:catL N1 N2 al cs bl ds (i * (N1+N2))=X at hst hcl ⊢
  have r1:=row_m s cs (X.map cellR) al i N1 (by omega) hcl (by omega) hi1 hc hcb
  have hl1:=rowL_len al cs i N1
  generalize hY:rowL al cs i N1=Y at r1 hst hl1
  have hcl2:(X.map cellR).length≤90000000000:=by
   rw [← hX,List.length_map,catL_len]
   have:i * (N1+N2)≤2048 * (N1+N2):=Nat.mul_le_mul_right _ (by omega)
   omega
  have r2:=row_m t ds (X.map cellR++Y.map cellR) bl i N2 (by omega) (by rw [List.length_append]; simp only [List.length_map] at hcl2 ⊢; omega) (by omega) hi2 hd hdb
  generalize hZ:rowL bl ds i N2=Z at r2 hst
  refine walk2 ?_
  refine aw_reg (rrun2 ?_)
  refine r_callN [(1,0)] r1 ?_
  refine rrun2 ?_
  refine rg_nil ⟨rfl,?_⟩
  refine walk2 ?_
  refine aw_reg (rrun2 ?_)
  refine r_callN [(2,0)] r2 ?_
  refine rrun2 ?_
  refine rg_nil ⟨rfl,?_⟩
  refine walk2 ?_
  refine ⟨i+1,by omega,by omega,wkR hC.m [(1,3)] ?_⟩
  rw [← hst,List.map_append,List.map_append]
  rfl
 ·have:i=A:=by omega
  subst this
  refine walk2 ?_
  exact fin
def wholeP (s t:List Int) (x:Nat) (z:Int):List Int × Int:=if wout s x=wout t x then (if (cnt (s.set x z)).2=0 then (s.set x z,0) else ([],(cnt (s.set x z)).2)) else ([],4)
theorem pwhole_a (s t:List Int) (cs ds:List Cell) (al bl:Bool) (x n1 n2:Nat) (hs:s[x]? = some (n1:Int)) (ht:t[x]? = some (n2:Int)) (hl:s.length=t.length) (h6:s.length≤6) (b1:n1≤2048) (b2:n2≤2048) :
 ACalls Tryz.prog 62 [.agg (pairV s cs al t ds bl x)] (.tup [.sl 1 (intsA .i64 (wholeP s t x ((n1:Int)+n2)).1),.lit (.int .i64 (wholeP s t x ((n1:Int)+n2)).2)]):=by
 have hB:maxB=1000000000:=rfl
 have ls:=intsA_len .i64 s
 have lt:=intsA_len .i64 t
 have lsx:=(List.getElem?_eq_some_iff.1 hs).1
 have hsx:(intsA .i64 s)[((x:Nat):Int).toNat]? = some [.lit (.int .i64 (n1:Int))]:=int_at hs
 have htx:(intsA .i64 t)[((x:Nat):Int).toNat]? = some [.lit (.int .i64 (n2:Int))]:=int_at ht
 have c1:=shWith_a s x ((n1:Int)+n2) lsx (by omega)
 have c2:=count_a (s.set x ((n1:Int)+n2))
 have hw:=wout_eq hl lsx
 unfold wholeP
 generalize s.set x ((n1:Int)+n2)=u at c1 c2 ⊢
 refine acalls_of code_join_pair_whole (by simp [fn_join_pair_whole]) fun C hC => ?_
 unfold pairV
 refine walk2 ?_
 refine aw_loopB [1,12,13,2,3] [0] (fun k:Nat=>[(14,.lit (.int .i64 k))]) (fun k=>[]) 1 (fun k=>k≤s.length∧∀ j,j<k→j≠x→s[j]? = t[j]?) (fun k=>s.length - k) 0 ⟨Nat.zero_le _,fun j hj=>absurd hj (Nat.not_lt_zero _)⟩ ?_
 rintro k ⟨hk,hE⟩
 dsimp only [List.cons_append,List.nil_append]
 by_cases hkl:k<s.length
 ·obtain ⟨a,ha⟩:∃ a,s[k]? = some a:=⟨_,List.getElem?_eq_getElem hkl⟩
  obtain ⟨b,hb⟩:∃ b,t[k]? = some b:=⟨_,List.getElem?_eq_getElem (by omega)⟩
  have hak:(intsA .i64 s)[((k:Nat):Int).toNat]? = some [.lit (.int .i64 a)]:=int_at ha
  have hbk:(intsA .i64 t)[((k:Nat):Int).toNat]? = some [.lit (.int .i64 b)]:=int_at hb
  by_cases hkx:k=x
  ·have hkx':(k:Int)=x:=by omega
   clear c1 c2
   refine walk2 ?_
   refine ⟨k+1,by omega,⟨by omega,fun j hj hjx=>hE j (by omega) hjx⟩,wkR hC.m [] ?_⟩
   rfl
  ·have hkx':¬ (k:Int)=x:=by omega
   by_cases hab:a=b
   ·clear c1 c2
    refine walk2 ?_
    refine ⟨k+1,by omega,⟨by omega,fun j hj hjx => ?_⟩,wkR hC.m [] ?_⟩
    ·by_cases hjk:j=k
     ·subst hjk; rw [ha,hb,hab]
     ·exact hE j (by omega) hjx
    ·rfl
   ·have hne:¬ wout s x=wout t x:=fun h=>by
     have:=hw.1 h k hkx
     rw [ha,hb] at this
     exact hab (Option.some.inj this)
    rw [if_neg hne]
    clear c1 c2
    refine walk2 ?_
    exact fin
 ·have he:wout s x=wout t x:=hw.2 fun j hj=>by
   by_cases hjl:j<s.length
   ·exact hE j (by omega) hj
   ·rw [List.getElem?_eq_none (by omega),List.getElem?_eq_none (by omega)]
  rw [if_pos he]
  by_cases h0:(cnt u).2=0
  ·rw [if_pos h0]
   rw [h0] at c2
   refine walk2 ?_
   exact fin
  ·rw [if_neg h0]
   generalize (cnt u).2=e at c2 h0 ⊢
   generalize (cnt u).1=v at c2
   refine walk2 ?_
   exact fin
structure okJ (A:Arr):Prop where
 ok:okA A
 e:(cnt A.shape).2=0
 c:(cnt A.shape).1=A.cells.length
theorem okJ.small {A:Arr} (h:okJ A):Small A.shape:=cnt_small h.e
theorem okJ.len {A:Arr} (h:okJ A):A.shape.length≤6:=cnt_len h.e
theorem okJ.prod {A:Arr} (h:okJ A):prodL A.shape=A.cells.length:=by rw [← cnt_prod h.e]; exact h.c
theorem okJ.cells {A:Arr} (h:okJ A):A.cells.length≤2048:=by have:=(cnt_le A.shape).2; rw [h.c] at this; omega
theorem prodC_le:∀ (l:List Int) (o:Int),0<o→(∀ z ∈ l,0<z)→o * prodL l≤2048→prodC l o=o * prodL l
 | [],o,_,_,_=>by simp [prodC,prodL]
 | z::l,o,ho,hp,h=>by
   have hz:=hp z (by simp)
   have hl:=prodL_pos l (fun y hy=>hp y (by simp [hy]))
   simp only [prodL] at h ⊢
   rw [← Int.mul_assoc] at h ⊢
   have h1:o * z≤o * z * prodL l:=by
    have:=Int.mul_le_mul_of_nonneg_left (show (1:Int)≤prodL l by omega) (Int.le_of_lt (Int.mul_pos ho hz))
    rwa [Int.mul_one] at this
   simp only [prodC]
   rw [if_neg (by omega)]
   exact prodC_le l (o * z) (Int.mul_pos ho hz) (fun y hy=>hp y (by simp [hy])) h
theorem split_at {s:List Int} {x:Nat} {z:Int} (h:s[x]? = some z):s=s.take x++z::s.drop (x+1):=by
 have:=(List.getElem?_eq_some_iff.1 h)
 obtain ⟨hx,e⟩:=this
 rw [← e,← List.drop_eq_getElem_cons hx,List.take_append_drop]
def aheadN (u:List Int) (x:Nat):Nat:=(prodC (u.take x) 1).toNat
def behindN (u:List Int) (x:Nat):Nat:=(prodC (u.drop (x+1)) 1).toNat
theorem Small.mem {s t:List Int} (h:Small s) (ht:∀ z ∈ t,z ∈ s):Small t:=fun z hz=>h z (ht z hz)
theorem ahead_eq {u:List Int} (x:Nat) (hu:Small u):prodC (u.take x) 1=(aheadN u x:Nat)∧aheadN u x≤2048∧prodC (u.drop (x+1)) 1=(behindN u x:Nat)∧behindN u x≤2048:=by
 have h1:=prodC_range (u.take x) 1 (by omega) (by omega) (hu.mem fun z hz=>List.mem_of_mem_take hz)
 have h2:=prodC_range (u.drop (x+1)) 1 (by omega) (by omega) (hu.mem fun z hz=>List.mem_of_mem_drop hz)
 unfold aheadN behindN
 omega
theorem geo {u:List Int} {x n:Nat} (h:(cnt u).2=0) (hz:u[x]? = some (n:Int)) :
 ((∀ z ∈ u,0<z)∧prodL (u.take x)=(aheadN u x:Nat)∧prodL (u.drop (x+1))=(behindN u x:Nat)∧(cnt u).1=((aheadN u x * (n * behindN u x):Nat):Int)) ∨
   ((0:Int) ∈ u∧(cnt u).1=0∧(aheadN u x=0∨n=0∨behindN u x=0)):=by
 have hs:=cnt_small h
 have hsp:=split_at hz
 have hp:=cnt_prod h
 have hle:=cnt_le u
 by_cases h0:(0:Int) ∈ u
 ·refine .inr ⟨h0,by rw [hp,prodL_zero h0],?_⟩
  rw [hsp,List.mem_append,List.mem_cons] at h0
  rcases h0 with h0|h0|h0
  ·left; unfold aheadN; rw [prodC_zero _ _ (hs.mem fun z hz=>List.mem_of_mem_take hz) h0]; rfl
  ·right; left; omega
  ·right; right; unfold behindN; rw [prodC_zero _ _ (hs.mem fun z hz=>List.mem_of_mem_drop hz) h0]; rfl
 ·have hpos:∀ z ∈ u,0<z:=fun z hz=>by
   have:=(hs z hz).1
   rcases Int.lt_or_eq_of_le this with h1|h1
   ·exact h1
   ·subst h1; exact absurd hz h0
  have p1:=prodL_pos (u.take x) (fun z hz=>hpos z (List.mem_of_mem_take hz))
  have p2:=prodL_pos (u.drop (x+1)) (fun z hz=>hpos z (List.mem_of_mem_drop hz))
  have pn:0<(n:Int):=hpos _ (List.mem_of_getElem? hz)
  have e:prodL u=prodL (u.take x) * (n * prodL (u.drop (x+1))):=by
   conv=>lhs; rw [hsp]
   rw [prodL_append,prodL_cons]
  have l1:prodL (u.take x)≤2048:=by
   have h1:1≤(n:Int) * prodL (u.drop (x+1)):=Int.mul_pos pn p2
   have:=Int.mul_le_mul_of_nonneg_left h1 (Int.le_of_lt p1)
   rw [Int.mul_one] at this; omega
  have l2:prodL (u.drop (x+1))≤2048:=by
   have h1:1 * prodL (u.drop (x+1))≤(n:Int) * prodL (u.drop (x+1)):=Int.mul_le_mul_of_nonneg_right (by omega) (Int.le_of_lt p2)
   have h2:=Int.mul_pos pn p2
   have h3:1 * ((n:Int) * prodL (u.drop (x+1)))≤prodL (u.take x) * (n * prodL (u.drop (x+1))):=Int.mul_le_mul_of_nonneg_right (by omega) (Int.le_of_lt h2)
   omega
  have c1:=prodC_le (u.take x) 1 (by omega) (fun z hz=>hpos z (List.mem_of_mem_take hz)) (by omega)
  have c2:=prodC_le (u.drop (x+1)) 1 (by omega) (fun z hz=>hpos z (List.mem_of_mem_drop hz)) (by omega)
  have a:=ahead_eq x hs
  refine .inl ⟨hpos,by omega,by omega,?_⟩
  rw [hp,e,Int.natCast_mul,Int.natCast_mul]
  rw [show prodL (u.take x)=(aheadN u x:Nat) from by omega,show prodL (u.drop (x+1))=(behindN u x:Nat) from by omega]
theorem wid_facts {A B:Arr} (hA:okJ A) (hB:okJ B) {n x:Nat} (hn:n=axN A B) (hx:x<n) {s:List Int} {al:Bool} (h:widP A.shape B.shape n x=some (s,al)) :
 s.length=n∧Small s∧(al=true→A.shape=[]∧A.cells.length=1)∧(al=false→A.shape≠[]∧prodL s=A.cells.length):=by
 have hn1:1≤n:=by rw [hn]; unfold axN; omega
 have hone:Small [1]:=fun z hz=>by simp at hz; omega
 unfold widP at h
 split at h
 ·rename_i h1
  simp only [Option.some.injEq,Prod.mk.injEq] at h
  obtain ⟨rfl,rfl⟩:=h
  refine ⟨h1,hA.small,fun h=>(by cases h),fun _=>⟨fun h => ?_,hA.prod⟩⟩
  rw [h] at h1; simp at h1; omega
 ·split at h
  ·rename_i h1 h2
   have hc1:A.cells.length=1:=by
    have:=hA.prod
    rw [h2] at this
    simp only [prodL] at this; omega
   split at h
   ·rename_i h3
    simp only [Option.some.injEq,Prod.mk.injEq] at h
    obtain ⟨rfl,rfl⟩:=h
    refine ⟨?_,hone,fun _=>⟨h2,hc1⟩,fun h=>by cases h⟩
    rw [hn]; unfold axN; rw [h2,h3]; rfl
   ·simp only [Option.some.injEq,Prod.mk.injEq] at h
    obtain ⟨rfl,rfl⟩:=h
    refine ⟨?_,fun z hz => ?_,fun _=>⟨h2,hc1⟩,fun h=>by cases h⟩
    ·rename_i h3
     have:B.shape.length≠0:=fun e=>h3 (List.eq_nil_of_length_eq_zero e)
     rw [List.length_set,hn]; unfold axN; rw [h2]; simp; omega
    ·rcases List.mem_or_eq_of_mem_set hz with h|h
     ·exact hB.small z h
     ·subst h; omega
  ·split at h
   ·rename_i h1 h2 h3
    simp only [Option.some.injEq,Prod.mk.injEq] at h
    obtain ⟨rfl,rfl⟩:=h
    refine ⟨by simp; omega,fun z hz => ?_,fun h=>(by cases h),fun _=>⟨h2,?_⟩⟩
    ·rw [List.mem_append,List.mem_cons] at hz
     rcases hz with hz|hz|hz
     ·exact hA.small z (List.mem_of_mem_take hz)
     ·subst hz; omega
     ·exact hA.small z (List.mem_of_mem_drop hz)
    ·rw [prodL_append,prodL_cons,Int.one_mul,← prodL_append,List.take_append_drop,hA.prod]
   ·cases h
def catP (A B:Arr) (first:Bool):Arr × Int :=
 match widP A.shape B.shape (axN A B) (atN A B first),widP B.shape A.shape (axN A B) (atN A B first) with
 | some (s,al),some (t,bl) =>
   if (wholeP s t (atN A B first) (s.getD (atN A B first) 0+t.getD (atN A B first) 0)).2≠0 then (.mk 0 [] [],(wholeP s t (atN A B first) (s.getD (atN A B first) 0+t.getD (atN A B first) 0)).2)
   else (.mk (A.s ||| B.s) (s.set (atN A B first) (s.getD (atN A B first) 0+t.getD (atN A B first) 0))
    (catL ((s.getD (atN A B first) 0).toNat * behindN s (atN A B first)) ((t.getD (atN A B first) 0).toNat * behindN s (atN A B first)) al A.cells bl B.cells
     (aheadN s (atN A B first) * ((s.getD (atN A B first) 0).toNat * behindN s (atN A B first)+(t.getD (atN A B first) 0).toNat * behindN s (atN A B first)))),0)
 | _,_=>(.mk 0 [] [],5)
structure Cat (A B:Arr) (first:Bool) (s t:List Int) (al bl:Bool) (x n1 n2:Nat) (u:List Int):Prop where
 hx:x=atN A B first
 w1:widP A.shape B.shape (axN A B) x=some (s,al)
 w2:widP B.shape A.shape (axN A B) x=some (t,bl)
 sx:s[x]? = some (n1:Int)
 tx:t[x]? = some (n2:Int)
 ls:s.length=axN A B
 lt:t.length=axN A B
 l6:axN A B≤6
 ss:Small s
 st:Small t
 hu:u=s.set x ((n1:Int)+n2)
 al1:al=true→A.shape=[]∧A.cells.length=1
 al0:al=false→A.shape≠[]∧prodL s=A.cells.length
 bl1:bl=true→B.shape=[]∧B.cells.length=1
 bl0:bl=false→B.shape≠[]∧prodL t=B.cells.length
theorem cat_cases {A B:Arr} (hA:okJ A) (hB:okJ B) (first:Bool) :
 (catP A B first=(.mk 0 [] [],5)∧(widP A.shape B.shape (axN A B) (atN A B first)=none∨widP B.shape A.shape (axN A B) (atN A B first)=none)) ∨
  ∃ s t al bl n1 n2 u,Cat A B first s t al bl (atN A B first) n1 n2 u∧n1≤2048∧n2≤2048∧(
    (wout s (atN A B first)≠wout t (atN A B first)∧catP A B first=(.mk 0 [] [],4)) ∨
     (wout s (atN A B first)=wout t (atN A B first)∧(cnt u).2≠0∧catP A B first=(.mk 0 [] [],(cnt u).2)) ∨
      (wout s (atN A B first)=wout t (atN A B first)∧(cnt u).2=0∧catP A B first=(.mk (A.s ||| B.s) u (catL (n1 * behindN u (atN A B first)) (n2 * behindN u (atN A B first)) al A.cells bl B.cells (aheadN u (atN A B first) * (n1 * behindN u (atN A B first)+n2 * behindN u (atN A B first)))),0))):=by
 have hl1:=hA.len
 have hl2:=hB.len
 have hx:atN A B first<axN A B:=by unfold atN axN; split<;>omega
 have h6:axN A B≤6:=by unfold axN; omega
 unfold catP
 cases h1:widP A.shape B.shape (axN A B) (atN A B first) with
 | none=>exact .inl ⟨rfl,.inl rfl⟩
 | some p =>
   cases h2:widP B.shape A.shape (axN A B) (atN A B first) with
   | none=>obtain ⟨s,al⟩:=p; exact .inl ⟨rfl,.inr rfl⟩
   | some q =>
     obtain ⟨s,al⟩:=p
     obtain ⟨t,bl⟩:=q
     right
     obtain ⟨f1,f2,f3,f4⟩:=wid_facts hA hB rfl hx h1
     obtain ⟨g1,g2,g3,g4⟩:=wid_facts hB hA (axN_comm A B) hx h2
     generalize hxe:atN A B first=x at *
     obtain ⟨a,ha⟩:∃ a,s[x]? = some a:=⟨_,List.getElem?_eq_getElem (by omega)⟩
     obtain ⟨b,hb⟩:∃ b,t[x]? = some b:=⟨_,List.getElem?_eq_getElem (by omega)⟩
     have a1:=f2 a (List.mem_of_getElem? ha)
     have b1:=g2 b (List.mem_of_getElem? hb)
     have da:s.getD x 0=((a.toNat:Nat):Int):=by rw [List.getD_eq_getElem?_getD,ha]; simp; omega
     have db:t.getD x 0=((b.toNat:Nat):Int):=by rw [List.getD_eq_getElem?_getD,hb]; simp; omega
     simp only [da,db,Int.toNat_natCast]
     have ha':s[x]? = some ((a.toNat:Nat):Int):=by rw [ha]; congr 1; omega
     have hb':t[x]? = some ((b.toNat:Nat):Int):=by rw [hb]; congr 1; omega
     generalize hn1:a.toNat=n1 at *
     generalize hn2:b.toNat=n2 at *
     have hb1:behindN (s.set x ((n1:Int)+n2)) x=behindN s x:=by unfold behindN; rw [List.drop_set_of_lt (Nat.lt_succ_self x)]
     have ha1:aheadN (s.set x ((n1:Int)+n2)) x=aheadN s x:=by unfold aheadN; rw [List.take_set_of_le (Nat.le_refl x)]
     refine ⟨s,t,al,bl,n1,n2,s.set x ((n1:Int)+n2),⟨hxe.symm,h1,h2,ha',hb',f1,g1,h6,f2,g2,rfl,f3,f4,g3,g4⟩,by omega,by omega,?_⟩
     rw [hb1,ha1]
     unfold wholeP
     by_cases hw:wout s x=wout t x
     ·right
      by_cases h0:(cnt (s.set x ((n1:Int)+n2))).2=0
      ·right
       exact ⟨hw,h0,by simp [hw,h0]⟩
      ·left
       exact ⟨hw,h0,by simp [hw,h0]⟩
     ·left
      exact ⟨hw,by simp [hw]⟩
theorem Cat.sizes {A B:Arr} {first:Bool} {s t:List Int} {al bl:Bool} {x n1 n2:Nat} {u:List Int} (K:Cat A B first s t al bl x n1 n2 u) (hw:wout s x=wout t x) (hu:(cnt u).2=0) :
 u[x]? = some ((n1+n2:Nat):Int)∧(cnt u).1=((aheadN u x * (n1 * behindN u x+n2 * behindN u x):Nat):Int)∧(al=false→aheadN u x * (n1 * behindN u x)≤A.cells.length)∧(bl=false→aheadN u x * (n2 * behindN u x)≤B.cells.length) ∧
   u.take x=s.take x∧u.drop (x+1)=s.drop (x+1)∧t.take x=s.take x∧t.drop (x+1)=s.drop (x+1):=by
 have hxs:=(List.getElem?_eq_some_iff.1 K.sx).1
 have hxt:=(List.getElem?_eq_some_iff.1 K.tx).1
 have hux:u[x]? = some ((n1+n2:Nat):Int):=by rw [K.hu,List.getElem?_set_self hxs]; simp
 have hut:u.take x=s.take x:=by rw [K.hu,List.take_set_of_le (Nat.le_refl x)]
 have hud:u.drop (x+1)=s.drop (x+1):=by rw [K.hu,List.drop_set_of_lt (Nat.lt_succ_self x)]
 have hwl:t.take x=s.take x∧t.drop (x+1)=s.drop (x+1):=by
  unfold wout at hw
  have:=List.append_inj hw (by simp; omega)
  exact ⟨this.1.symm,this.2.symm⟩
 have hs:=split_at K.sx
 have ht:=split_at K.tx
 have es:prodL s=prodL (u.take x) * (n1 * prodL (u.drop (x+1))):=by
  conv=>lhs; rw [hs]
  rw [prodL_append,prodL_cons,hut,hud]
 have et:prodL t=prodL (u.take x) * (n2 * prodL (u.drop (x+1))):=by
  conv=>lhs; rw [ht]
  rw [prodL_append,prodL_cons,hut,hud,hwl.1,hwl.2]
 refine ⟨hux,?_,fun h => ?_,fun h => ?_,hut,hud,hwl.1,hwl.2⟩
 ·rcases geo hu hux with ⟨_,_,_,h⟩|⟨_,h,hz⟩
  ·rw [h,Nat.add_mul]
  ·rw [h]
   rcases hz with hz|hz|hz
   ·rw [hz,Nat.zero_mul]; rfl
   ·have h1:n1=0:=by omega
    have h2:n2=0:=by omega
    rw [h1,h2]; simp
   ·rw [hz]; simp
 ·have hp:=(K.al0 h).2
  rcases geo hu hux with ⟨_,g1,g2,_⟩|⟨_,_,hz⟩
  ·rw [es,g1,g2,← Int.natCast_mul,← Int.natCast_mul] at hp
   omega
  ·rcases hz with hz|hz|hz
   ·rw [hz,Nat.zero_mul]; exact Nat.zero_le _
   ·have h1:n1=0:=by omega
    rw [h1]; simp
   ·rw [hz]; simp
 ·have hp:=(K.bl0 h).2
  rcases geo hu hux with ⟨_,g1,g2,_⟩|⟨_,_,hz⟩
  ·rw [et,g1,g2,← Int.natCast_mul,← Int.natCast_mul] at hp
   omega
  ·rcases hz with hz|hz|hz
   ·rw [hz,Nat.zero_mul]; exact Nat.zero_le _
   ·have h1:n2=0:=by omega
    rw [h1]; simp
   ·rw [hz]; simp
theorem cat_a (A B:Arr) (first:Bool) (hA:okJ A) (hB:okJ B):ACalls Tryz.prog 21 [.agg (arrV A),.agg (arrV B),.lit (.bool first)] (.tup [.agg (arrV (catP A B first).1),.lit (.int .i64 (catP A B first).2)]):=by
 have c1:=fit_a A B first hA.len hB.len
 rcases cat_cases hA hB first with ⟨he,hn⟩|⟨s,t,al,bl,n1,n2,u,K,b1,b2,hr⟩
 ·have c1':ACalls Tryz.prog 61 [.agg (arrV A),.agg (arrV B),.lit (.bool first)] (.tup [zPair,.lit (.int .i64 5)]):=by
   rcases hn with h|h
   ·rw [h] at c1; exact c1
   ·rw [h] at c1
    split at c1
    ·rename_i h1 h2; cases h2
    ·exact c1
  rw [he]
  unfold zPair at c1'
  clear c1
  refine acalls_defer code_join_Catenate (by simp [fn_join_Catenate]) idle_join_Catenate fun C hC => ?_
  refine walk2 ?_
  intro ds
  refine walk2 ?_
  exact fin
 ·rw [K.w1,K.w2] at c1
  simp only at c1
  generalize hxe:atN A B first=x at *
  have c2:=pwhole_a s t A.cells B.cells al bl x n1 n2 K.sx K.tx (by rw [K.ls,K.lt]) (by rw [K.ls]; exact K.l6) b1 b2
  unfold wholeP at c2
  rw [← K.hu] at c2
  rcases hr with ⟨hw,he⟩|⟨hw,h0,he⟩|⟨hw,h0,he⟩
  ·rw [he]
   rw [if_neg hw] at c2
   unfold pairV at c1 c2
   refine acalls_defer code_join_Catenate (by simp [fn_join_Catenate]) idle_join_Catenate fun C hC => ?_
   refine walk2 ?_
   intro ds
   refine walk2 ?_
   exact fin
  ·rw [he]
   rw [if_pos hw,if_neg h0] at c2
   unfold pairV at c1 c2
   generalize (cnt u).2=e at c2 h0 ⊢
   refine acalls_defer code_join_Catenate (by simp [fn_join_Catenate]) idle_join_Catenate fun C hC => ?_
   refine walk2 ?_
   intro ds
   refine walk2 ?_
   exact fin
  ·rw [he]
   rw [if_pos hw,if_pos h0] at c2
   obtain ⟨z1,z2,z3,z4,z5,z6,z7,z8⟩:=K.sizes hw h0
   obtain ⟨a1,a2,a3,a4⟩:=ahead_eq x (cnt_small h0)
   have k1:=hA.cells
   have k2:=hB.cells
   have c3:=merge_a s t u A.cells B.cells al bl x n1 n2 (aheadN u x) (behindN u x) K.sx K.tx h0 z1 a1 a3 a2 a4 b1 b2 (fun h=>by have:=(K.al1 h).2; omega) (fun h=>by have:=(K.bl1 h).2; omega) z3 z4 (by omega) (by omega)
   have c4:=join_a A.s B.s hA.ok.parts.1 hB.ok.parts.1
   unfold pairV at c1 c2 c3
   generalize catL (n1 * behindN u x) (n2 * behindN u x) al A.cells bl B.cells (aheadN u x * (n1 * behindN u x+n2 * behindN u x))=R at c3 ⊢
   refine acalls_defer code_join_Catenate (by simp [fn_join_Catenate]) idle_join_Catenate fun C hC => ?_
   refine walk2 ?_
   intro ds
   refine walk2 ?_
   exact fin
theorem cnt_ok {s:List Int} (h6:s.length≤6) (hs:Small s) (hp:prodL s≤2048):(cnt s).2=0:=by
 unfold cnt
 rw [if_neg (by omega),if_neg (by simp only [List.any_eq_true,decide_eq_true_eq,not_exists,not_and]; exact fun z hz=>by have:=(hs z hz).1; omega),if_neg (by simp only [List.any_eq_true,decide_eq_true_eq,not_exists,not_and]; exact fun z hz=>by have:=(hs z hz).2; omega)]
 split
 ·rfl
 ·rename_i h
  have hpos:∀ z ∈ s,0<z:=fun z hz=>by
   have h1:=(hs z hz).1
   rcases Int.lt_or_eq_of_le h1 with h2|h2
   ·exact h2
   ·subst h2
    exact absurd (List.any_eq_true.2 ⟨0,hz,by simp⟩) h
  have e:=prodC_le s 1 (by omega) hpos (by omega)
  have:=prodL_pos s hpos
  rw [if_neg (by omega)]
theorem intsP_eq (s t:List Int):intsP s t=decide (s=t):=by unfold intsP; rw [Bool.eq_iff_iff]; simp
theorem catL_mem {n1 n2:Nat} {a1:Bool} {c1:List Cell} {a2:Bool} {c2:List Cell} (e1:a1=true→0<c1.length) (e2:a2=true→0<c2.length) (A:Nat) (h1:a1=false→A * n1≤c1.length) (h2:a2=false→A * n2≤c2.length):∀ i,i≤A→∀ c ∈ catL n1 n2 a1 c1 a2 c2 (i * (n1+n2)),c ∈ c1∨c ∈ c2
 | 0,_,c,hc=>by rw [Nat.zero_mul] at hc; simp [catL] at hc
 | i+1,hi,c,hc=>by
   have hrow:∀ (al:Bool) (cs:List Cell) (n:Nat),(al=true→0<cs.length)→∀ c ∈ rowL al cs i n,c ∈ cs:=fun al cs n he c hc=>by
    unfold rowL at hc
    split at hc
    ·rename_i h
     have:=he h
     rw [List.mem_replicate] at hc
     rw [hc.2,List.getD_eq_getElem?_getD,List.getElem?_eq_getElem this]
     exact List.getElem_mem _
    ·exact List.mem_of_mem_drop (List.mem_of_mem_take hc)
   have b1:a1=false→i * n1+n1≤c1.length:=fun h=>by
    have:=h1 h
    have h3:(i+1) * n1≤A * n1:=Nat.mul_le_mul_right _ hi
    rw [Nat.add_mul,Nat.one_mul] at h3; omega
   have b2:a2=false→i * n2+n2≤c2.length:=fun h=>by
    have:=h2 h
    have h3:(i+1) * n2≤A * n2:=Nat.mul_le_mul_right _ hi
    rw [Nat.add_mul,Nat.one_mul] at h3; omega
   rw [← catL_step n1 n2 a1 c1 a2 c2 i b1 b2,List.mem_append,List.mem_append] at hc
   rcases hc with (hc|hc)|hc
   ·exact catL_mem e1 e2 A h1 h2 i (by omega) c hc
   ·exact .inl (hrow a1 c1 n1 e1 c hc)
   ·exact .inr (hrow a2 c2 n2 e2 c hc)
theorem cat_facts {A B:Arr} (hA:okJ A) (hB:okJ B) (first:Bool) :
 ((catP A B first).2≠0∧(catP A B first).1=.mk 0 [] []) ∨
   ((catP A B first).2=0∧(catP A B first).1.s=A.s ||| B.s∧(cnt (catP A B first).1.shape).2=0∧(cnt (catP A B first).1.shape).1=(catP A B first).1.cells.length∧(catP A B first).1.shape.length≤6∧∀ c ∈ (catP A B first).1.cells,c ∈ A.cells∨c ∈ B.cells):=by
 rcases cat_cases hA hB first with ⟨he,hn⟩|⟨s,t,al,bl,n1,n2,u,K,b1,b2,hr⟩
 ·left; rw [he]; exact ⟨by simp,rfl⟩
 ·rcases hr with ⟨hw,he⟩|⟨hw,h0,he⟩|⟨hw,h0,he⟩
  ·left; rw [he]; exact ⟨by simp,rfl⟩
  ·left; rw [he]; exact ⟨h0,rfl⟩
  ·right
   rw [he]
   obtain ⟨z1,z2,z3,z4,z5,z6,z7,z8⟩:=K.sizes hw h0
   refine ⟨rfl,rfl,h0,?_,?_,?_⟩
   ·simp only [Arr.shape,Arr.cells,catL_len]; exact z2
   ·simp only [Arr.shape]; exact cnt_len h0
   ·simp only [Arr.cells]
    exact catL_mem (fun h=>by have:=(K.al1 h).2; omega) (fun h=>by have:=(K.bl1 h).2; omega) _ z3 z4 _ (Nat.le_refl _)
theorem alone_a (z:Int) (s:Nat) (h0 : -9223372036854775808≤z) (h1:z≤9223372036854775807):ACalls Tryz.prog 18 [.lit (.int .i64 z),labV s] (.agg (arrV (.mk s [] [intC z]))):=by
 have c1:=r8Int_a z h0 h1
 refine acalls_of code_scrimref11_Alone (by simp [fn_scrimref11_Alone]) fun C hC => ?_
 refine walk2 ?_
 exact fin
theorem intJ_ok (z:Int) (h:z.natAbs<2 ^ 64):okC (intC z):=by
 have:=limbs_len_pow 64 z.natAbs h
 simp only [intC,okC,ofZ,okAs,maxB,List.length_nil,List.length_cons]
 exact ⟨by omega,by omega,by omega,by omega,trivial⟩
theorem okCs_of {cs:List Cell} (h:∀ c ∈ cs,okC c):okCs cs:=okCs_mem.2 h
theorem okA_cat {A B:Arr} (hA:okJ A) (hB:okJ B) (first:Bool) (h:(catP A B first).2=0):okJ (catP A B first).1:=by
 rcases cat_facts hA hB first with ⟨h1,_⟩|⟨_,h1,h2,h3,h4,h5⟩
 ·exact absurd h h1
 ·refine ⟨?_,h2,h3⟩
  have hle:=(cnt_le (catP A B first).1.shape).2
  generalize catP A B first=R at *
  obtain ⟨⟨s,sh,cs⟩,e⟩:=R
  simp only [Arr.s,Arr.shape,Arr.cells] at *
  simp only [okA]
  have hB:maxB=1000000000:=rfl
  refine ⟨by rw [h1]; exact or_lt _ _ hA.ok.parts.1 (by assumption:okJ B).ok.parts.1,by omega,by omega,okCs_of fun c hc => ?_⟩
  rcases h5 c hc with h|h
  ·exact okCs_mem.1 hA.ok.parts.2.2.2 c h
  ·exact okCs_mem.1 (by assumption:okJ B).ok.parts.2.2.2 c h
end Go.Proofs.YtnnipocjapblkaaGreat
