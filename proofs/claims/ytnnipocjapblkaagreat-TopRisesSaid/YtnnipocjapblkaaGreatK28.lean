/- Choosing along an axis: the parts of pick. -/
import Derived.Test.YtnnipocjapblkaaGreatK26
import Derived.Test.YtnnipocjapblkaaGreatK25
import Derived.Test.YtnnipocjapblkaaGreatK21
import Derived.Test.YtnnipocjapblkaaGreatK18
set_option maxRecDepth 10000
set_option maxHeartbeats 4000000
namespace Go.Proofs.YtnnipocjapblkaaGreat
set_option linter.unusedVariables false
open Go.RowKit
theorem pneg_a (z:Int):ACalls Tryz.prog 146 [nA z] (.lit (.bool (decide (z<0)))):=by
 refine acalls_of code_pick_Replicate_2 (by simp [fn_pick_Replicate_2]) fun C hC => ?_
 by_cases h:z<0
 ·rw [decide_eq_true h]
  refine wk5 ?_
  exact fin
 ·rw [decide_eq_false h]
  refine wk5 ?_
  exact fin
def paxS (A:Arr):List Int:=if A.shape.length=0 then [1] else A.shape
def paxN (A:Arr) (first:Bool):Nat:=if A.shape.length=0 then 0 else if first then 0 else A.shape.length - 1
theorem paxes_a (A:Arr) (first:Bool) (h6:A.shape.length≤6):ACalls Tryz.prog 147 [.agg (arrV A),.lit (.bool first)] (.tup [.sl 1 (intsA .i64 (paxS A)),nA (paxN A first)]):=by
 have ls:=intsA_len .i64 A.shape
 have c1:=cloneInt_a (intsA .i64 A.shape) (by omega)
 unfold paxS paxN
 by_cases h:A.shape.length=0
 ·rw [if_pos h,if_pos h]
  refine acalls_of code_pick_axes (by simp [fn_pick_axes]) fun C hC => ?_
  refine wk5 ?_
  exact fin
 ·rw [if_neg h,if_neg h]
  cases first
  ·have e:((A.shape.length - 1:Nat):Int)=(A.shape.length:Int) - 1:=by omega
   simp only [Bool.false_eq_true,if_false]
   rw [e]
   refine acalls_of code_pick_axes (by simp [fn_pick_axes]) fun C hC => ?_
   refine wk5 ?_
   exact fin
  ·simp only [if_true]
   refine acalls_of code_pick_axes (by simp [fn_pick_axes]) fun C hC => ?_
   refine wk5 ?_
   exact fin
def bitsP (l:List Int):Bool:=l.all fun k=>k == 0 || k == 1
theorem bitsP_at {l:List Int} {j:Nat} {k:Int} (h:l[j]? = some k):bitsP (l.drop j)=((k == 0 || k == 1) && bitsP (l.drop (j+1))):=by
 rw [dropA_cons h]; rfl
theorem bits_a (l:List Int) (hl:l.length≤100000):ACalls Tryz.prog 110 [.sl 1 (intsA .i64 l)] (.lit (.bool (bitsP l))):=by
 have ll:=intsA_len .i64 l
 refine acalls_of code_pick_bits (by simp [fn_pick_bits]) fun C hC => ?_
 refine wk5 ?_
 refine aw_loopB [5,6] [] (fun j:Nat=>[(7,nA j)]) (fun _=>[]) 0 (fun j=>j≤l.length∧bitsP l=bitsP (l.drop j)) (fun j=>l.length - j) 0 ⟨Nat.zero_le _,rfl⟩ ?_
 rintro j ⟨hj,hE⟩
 dsimp only [List.cons_append,List.nil_append] at hj hE ⊢
 by_cases hlt:j<l.length
 ·obtain ⟨k,hk⟩:∃ k,l[j]? = some k:=⟨_,List.getElem?_eq_getElem hlt⟩
  have hkk:=int_at (k:=.i64) hk
  rw [bitsP_at hk] at hE
  by_cases h0:k=0
  ·subst h0
   simp only [beq_self_eq_true,Bool.true_or,Bool.true_and] at hE
   refine wk5 ?_
   exact ⟨j+1,by omega,⟨by omega,hE⟩,wkR hC.m []⟩
  ·by_cases h1:k=1
   ·subst h1
    simp only [beq_self_eq_true,Bool.or_true,Bool.true_and] at hE
    refine wk5 ?_
    exact ⟨j+1,by omega,⟨by omega,hE⟩,wkR hC.m []⟩
   ·have hf:(k == 0 || k == 1)=false:=by simp [h0,h1]
    rw [hf,Bool.false_and] at hE
    rw [hE]
    refine wk5 ?_
    exact fin
 ·rw [List.drop_eq_nil_of_le (by omega)] at hE
  rw [hE,show bitsP []=true from rfl]
  refine wk5 ?_
  exact fin
def rowPt (A:Arr) (be lo:Nat) (i:Nat) (k:Int):List Cell:=if k<0 then List.replicate be (filC A) else (A.cells.drop ((i * lo+k.toNat) * be)).take be
def rowsI (A:Arr) (be lo:Nat) (F:List Int) (i:Nat):List Cell:=F.flatMap (rowPt A be lo i)
def rowsL (A:Arr) (ah be lo:Nat) (F:List Int):List Cell:=(List.range ah).flatMap (rowsI A be lo F)
def rowsP (N A:Arr) (s:List Int) (x:Nat) (F:List Int):Arr × Int :=
 if (cnt (s.set x F.length)).2≠0 then (zA,(cnt (s.set x F.length)).2) else
 (.mk (A.s ||| totA N) (s.set x F.length) (rowsL A (prodC ((s.set x F.length).take x) 1).toNat (prodC ((s.set x F.length).drop (x+1)) 1).toNat (s.getD x 0).toNat F),0)
theorem prodC_or:∀ (l:List Int) (o:Int),prodC l o=0∨prodC l o=o * prodL l
 | [],o=>.inr (by simp [prodC,prodL])
 | z::l,o=>by
   rw [prodC]
   split
   ·exact .inl rfl
   ·rcases prodC_or l (o * z) with h|h
    ·exact .inl h
    ·exact .inr (by rw [h,prodL_cons,Int.mul_assoc])
theorem prodC_leL {l:List Int} (h:Small l):prodC l 1≤prodL l:=by
 have h0:=prodL_nonneg l (fun z hz=>(h z hz).1)
 rcases prodC_or l 1 with e|e<;>rw [e]
 ·exact h0
 ·rw [Int.one_mul]; exact Int.le_refl _
theorem rowPt_len (A:Arr) (be lo i:Nat) (k:Int):(rowPt A be lo i k).length≤be:=by
 unfold rowPt; split<;>simp<;>omega
theorem rowsI_len (A:Arr) (be lo i:Nat):∀ (F:List Int),(rowsI A be lo F i).length≤F.length * be
 | []=>by simp [rowsI]
 | k::F=>by
   have:=rowsI_len A be lo i F
   have h2:=rowPt_len A be lo i k
   unfold rowsI at this ⊢
   rw [List.flatMap_cons,List.length_append,List.length_cons,Nat.add_mul]
   omega
theorem rowsO_len (A:Arr) (be lo:Nat) (F:List Int):∀ n:Nat,((List.range n).flatMap (rowsI A be lo F)).length≤n * (F.length * be)
 | 0=>by simp
 | n+1=>by
   have:=rowsO_len A be lo F n
   have h2:=rowsI_len A be lo n F
   rw [List.range_succ,List.flatMap_append,List.flatMap_singleton,List.length_append,Nat.add_mul]
   omega
theorem rows_a (N A:Arr) (s:List Int) (x lo:Nat) (F:List Int) (kN:okA N) (hAs:A.s<18446744073709551616) (hAl:A.cells.length≤2048) (hs:Small s) (h6:s.length≤6) (hp:prodL s=A.cells.length) (hx:s[x]? = some (lo:Int)) (hFl:F.length≤3000) (hF:∀ k ∈ F,k<lo) :
 ACalls Tryz.prog 148 [.agg (arrV N),.agg (arrV A),.sl 1 (intsA .i64 s),nA x,.sl 1 (intsA .i64 F)] (.tup [.agg (arrV (rowsP N A s x F).1),nA (rowsP N A s x F).2]):=by
 have hB:maxB=1000000000:=rfl
 have hxl:=(List.getElem?_eq_some_iff.1 hx).1
 have lF:=intsA_len .i64 F
 have c1:=shWith_a s x F.length hxl (by omega)
 have c2:=count_a (s.set x F.length)
 unfold rowsP
 rw [show s.getD x 0=(lo:Int) from by rw [List.getD_eq_getElem?_getD,hx]; rfl,Int.toNat_natCast]
 by_cases he:(cnt (s.set x F.length)).2=0
 ·rw [he] at c2
  rw [if_neg (fun h=>h he)]
  have ht:(s.set x (F.length:Int))[x]? = some (F.length:Int):=by rw [List.getElem?_set_self hxl]
  have c3:=shAround_a (s.set x F.length) x F.length he ht
  have hst:Small (s.set x (F.length:Int)):=cnt_small he
  have e1:(s.set x (F.length:Int)).take x=s.take x:=by rw [List.take_set,List.set_eq_of_length_le (by rw [List.length_take]; omega)]
  have e2:(s.set x (F.length:Int)).drop (x+1)=s.drop (x+1):=by rw [List.drop_set_of_lt (by omega)]
  rw [e1,e2] at c3 ⊢
  have s1:Small (s.take x):=fun z hz=>hs z (List.mem_of_mem_take hz)
  have s2:Small (s.drop (x+1)):=fun z hz=>hs z (List.mem_of_mem_drop hz)
  have p1:=prodC_leL s1
  have p2:=prodC_leL s2
  have r1:=prodC_range (s.take x) 1 (by omega) (by omega) s1
  have r2:=prodC_range (s.drop (x+1)) 1 (by omega) (by omega) s2
  have hsp:prodL (s.take x) * (lo:Int) * prodL (s.drop (x+1))=A.cells.length:=by
   rw [← hp]; conv=>rhs; rw [split_at hx,prodL_append,prodL_cons]
   rw [Int.mul_assoc]
  have n1:=prodL_nonneg (s.take x) (fun z hz=>(s1 z hz).1)
  have n2:=prodL_nonneg (s.drop (x+1)) (fun z hz=>(s2 z hz).1)
  obtain ⟨ah,hah⟩:∃ ah:Nat,prodC (s.take x) 1=ah:=⟨(prodC (s.take x) 1).toNat,by omega⟩
  obtain ⟨be,hbe⟩:∃ be:Nat,prodC (s.drop (x+1)) 1=be:=⟨(prodC (s.drop (x+1)) 1).toNat,by omega⟩
  rw [hah] at c3 p1 r1 ⊢
  rw [hbe] at c3 p2 r2 ⊢
  rw [Int.toNat_natCast,Int.toNat_natCast]
  have hlo:(lo:Int)≤2048:=(hs _ (List.mem_of_getElem? hx)).2
  have htot:ah * lo * be≤A.cells.length:=by
   have h1:(ah:Int) * lo≤prodL (s.take x) * lo:=Int.mul_le_mul_of_nonneg_right p1 (by omega)
   have h2:(ah:Int) * lo * be≤prodL (s.take x) * lo * prodL (s.drop (x+1)):=by
    refine Int.le_trans (Int.mul_le_mul_of_nonneg_right h1 (by omega)) (Int.mul_le_mul_of_nonneg_left p2 (Int.mul_nonneg n1 (by omega)))
   rw [hsp] at h2
   exact_mod_cast h2
  clear p1 p2 hsp n1 n2 hah hbe e1 e2 hst
  have hcn:=cnt_le (s.set x (F.length:Int))
  obtain ⟨cn,hcn2⟩:∃ cn:Nat,(cnt (s.set x (F.length:Int))).1=cn:=⟨(cnt (s.set x (F.length:Int))).1.toNat,by omega⟩
  rw [hcn2] at c2 hcn
  have c4:=fill_a A
  have c5:=total_a N kN
  have c6:=join_a A.s (totA N) hAs (totA_lt N kN)
  have ls:=intsA_len .i64 s
  have hxk:=int_at (k:=.i64) hx
  have lA:=cells_len A
  generalize s.set x (F.length:Int)=t at *
  refine acalls_of code_pick_rows (by simp [fn_pick_rows]) fun C hC => ?_
  refine wk5 ?_
  refine aw_loopB [2,3,4,5,6,10,11,12,16,18,20,55] [0,1,2,3] (fun i:Nat=>[(21,.own 4),(56,nA i)]) (fun i=>[(4,some ⟨true,false,54,7,((List.range i).flatMap (rowsI A be lo F)).map cellR⟩)]) 5
   (fun i=>i≤ah) (fun i=>ah - i) 0 (Nat.zero_le _) ?_
  intro i hi
  dsimp only [List.cons_append,List.nil_append] at hi ⊢
  by_cases hlt:i<ah
  ·have hO:=rowsO_len A be lo F i
   have hOs:(List.range i).flatMap (rowsI A be lo F)++rowsI A be lo F i=(List.range (i+1)).flatMap (rowsI A be lo F):=by
    rw [List.range_succ,List.flatMap_append,List.flatMap_singleton]
   have hO2:((List.range i).flatMap (rowsI A be lo F)).length≤12582912000:=by
    have h1:F.length * be≤3000 * 2048:=Nat.mul_le_mul hFl (by omega)
    have h2:i * (F.length * be)≤2048 * (3000 * 2048):=Nat.mul_le_mul (by omega) h1
    omega
   generalize (List.range i).flatMap (rowsI A be lo F)=O at hO hOs hO2 ⊢
   clear c1 c2 c3 c5 c6
   refine wk5 ?_
   refine aw_loopB [2,3,4,5,6,10,11,12,16,18,20,55,56,22,59,60] [0,1,2,3] (fun j:Nat=>[(21,.own 4),(61,nA j)]) (fun j=>[(4,some ⟨true,false,54,7,(O++(F.take j).flatMap (rowPt A be lo i)).map cellR⟩)]) 5
    (fun j=>j≤F.length) (fun j=>F.length - j) 0 (Nat.zero_le _) ?_ (hh:=by rw [List.take_zero,List.flatMap_nil,List.append_nil]; rfl)
   intro j hj
   dsimp only [List.cons_append,List.nil_append] at hj ⊢
   by_cases hjl:j<F.length
   ·obtain ⟨k,hk⟩:∃ k,F[j]? = some k:=⟨_,List.getElem?_eq_getElem hjl⟩
    have hkk:=int_at (k:=.i64) hk
    have hkl:=hF k (List.mem_of_getElem? hk)
    have hPs:(O++(F.take j).flatMap (rowPt A be lo i))++rowPt A be lo i k=O++(F.take (j+1)).flatMap (rowPt A be lo i):=by
     rw [takeA_snoc hk,List.flatMap_append,List.flatMap_singleton,List.append_assoc]
    have hPl:((F.take j).flatMap (rowPt A be lo i)).length≤3000 * 2048:=by
     have h1:=rowsI_len A be lo i (F.take j)
     have h2:(F.take j).length * be≤3000 * 2048:=Nat.mul_le_mul (by simp; omega) (by omega)
     unfold rowsI at h1
     omega
    have hrl:=rowPt_len A be lo i k
    have hPm:(O++(F.take j).flatMap (rowPt A be lo i)).map cellR++(rowPt A be lo i k).map cellR=(O++(F.take (j+1)).flatMap (rowPt A be lo i)).map cellR:=by
     rw [← hPs]; exact List.map_append.symm
    have hSl:((O++(F.take j).flatMap (rowPt A be lo i)).map cellR).length≤12589056000:=by rw [List.length_map,List.length_append]; omega
    generalize (O++(F.take j).flatMap (rowPt A be lo i)).map cellR=S at hPm hSl ⊢
    by_cases hk0:k<0
    ·have hR:(rowPt A be lo i k).map cellR=List.replicate be (cellV (filC A)):=by
      rw [rowPt,if_pos hk0,List.map_replicate,cellR_eq]
     rw [hR] at hPm
     have c7:=repCell_a (filC A) be (by omega)
     have hb:(S.length+(List.replicate be (cellV (filC A))).length) * 104≤140737488355328:=by rw [List.length_replicate]; omega
     refine wk5 ?_
     exact ⟨j+1,by omega,by omega,wkR hC.m [(4,6)] (by rw [← hPm]; rfl)⟩
    ·obtain ⟨q,rfl⟩:=Int.eq_ofNat_of_zero_le (show 0≤k by omega)
     have hat:(i * lo+q) * be+be≤A.cells.length:=by
      have h1:i * lo+q+1≤ah * lo:=by
       have:(i+1) * lo≤ah * lo:=Nat.mul_le_mul_right _ hlt
       rw [Nat.add_mul,Nat.one_mul] at this
       omega
      have h2:(i * lo+q+1) * be≤ah * lo * be:=Nat.mul_le_mul_right _ h1
      rw [Nat.add_mul (i * lo+q) 1,Nat.one_mul] at h2
      omega
     have hR:rowPt A be lo i (q:Int)=(A.cells.drop ((i * lo+q) * be)).take be:=by
      rw [rowPt,if_neg hk0,Int.toNat_natCast]
     have hcut:=Cut.map (f:=cellR) (s:=A.cells) (a:=(i * lo+q) * be) (b:=(i * lo+q) * be+be) (by omega) hat
     rw [Nat.add_sub_cancel_left,← hR] at hcut
     have hil:i * lo≤2048 * 2048:=Nat.mul_le_mul (by omega) (by omega)
     have hm1 : -9223372036854775808≤(i:Int) * lo∧(i:Int) * lo≤9223372036854775807:=by rw [← Int.natCast_mul]; omega
     have hm2 : -9223372036854775808≤(i:Int) * lo+q∧(i:Int) * lo+q≤9223372036854775807:=by rw [← Int.natCast_mul]; omega
     have hm3 : -9223372036854775808≤((i:Int) * lo+q) * be∧((i:Int) * lo+q) * be≤9223372036854775807:=by
      rw [← Int.natCast_mul,← Int.natCast_add,← Int.natCast_mul]; omega
     have hm4 : -9223372036854775808≤((i:Int) * lo+q) * be+be∧((i:Int) * lo+q) * be+be≤9223372036854775807:=by
      rw [← Int.natCast_mul,← Int.natCast_add,← Int.natCast_mul]; omega
     have hYl:((rowPt A be lo i (q:Int)).map cellR).length≤2048:=by rw [List.length_map]; omega
     generalize (rowPt A be lo i (q:Int)).map cellR=Y at *
     have hb:(S.length+Y.length) * 104≤140737488355328:=by omega
     refine wk5 ?_
     exact ⟨j+1,by omega,by omega,wkR hC.m [(4,5)] (by rw [← hPm]; rfl)⟩
   ·have hend:O++(F.take j).flatMap (rowPt A be lo i)=(List.range (i+1)).flatMap (rowsI A be lo F):=by
     rw [List.take_of_length_le (by omega)]; exact hOs
    rw [hend]
    refine wk5 ?_
    exact ⟨i+1,by omega,by omega,wkR hC.m []⟩
  ·obtain rfl:i=ah:=by omega
   show AW _ _ _ _ _
   rw [show (List.range i).flatMap (rowsI A be lo F)=rowsL A i be lo F from rfl]
   refine wk5 ?_
   exact fin
 ·rw [if_pos he]
  generalize s.set x (F.length:Int)=t at *
  generalize (cnt t).2=e at *
  generalize (cnt t).1=e' at *
  refine acalls_of code_pick_rows (by simp [fn_pick_rows]) fun C hC => ?_
  refine wk5 ?_
  exact fin
def plcR (F:Int→List Int):Rdg where
 p im w v:=∃ b o,v=.map (some b)∧im b∧w.heap[b]? = some o∧∀ k:Int,0≤k→k<18446744073709551616 →
   ∀ w',w'.heap[b]? = some o→∃ u,(Instr.lookup 147 (.map (some b)) (.int .u64 k) false).run Tryz.prog w'=.ok u w'∧RdI im w (.sl 1 (intsA .i64 (F k))) u
 mono im im' w w' v hi hw h:=by
  obtain ⟨b,o,h1,h2,h3,h4⟩:=h
  refine ⟨b,o,h1,hi b h2,(hw b h2).trans h3,fun k k0 k1 w2 hb => ?_⟩
  obtain ⟨u,hu,hr⟩:=h4 k k0 k1 w2 hb
  exact ⟨u,hu,RdI.mono hi hw _ _ hr⟩
 one im w v h:=by
  obtain ⟨b,o,h1,_⟩:=h
  subst h1; rfl
theorem plcR_look {F:Int→List Int} {k:Int} (k0:0≤k) (k1:k<18446744073709551616):∀ im w v,(plcR F).p im w v →
 ∃ u,(Instr.lookup 147 v (.int .u64 k) false).run Tryz.prog w=.ok u w∧RdI im w (.sl 1 (intsA .i64 (F k))) u:=by
 rintro im w v ⟨b,o,h1,h2,h3,h4⟩
 subst h1
 exact h4 k k0 k1 w h3
def plcF (l:List Cell) (k:Int):List Int:=((List.range l.length).filter fun i=>decide (markC 0 (l.getD i cellD)=k)).map fun (i:Nat)=>(i:Int)
def firstF (l:List Cell) (c:Cell):List Int→Int
 | [] => -1
 | i::is=>if eqvC false c (l.getD i.toNat cellD) then i else firstF l c is
theorem firstF_at (l:List Cell) (c:Cell) {is:List Int} {j:Nat} {i:Int} (h:is[j]? = some i):firstF l c (is.drop j)=if eqvC false c (l.getD i.toNat cellD) then i else firstF l c (is.drop (j+1)):=by
 rw [dropA_cons h,firstF]
def placeP (l:List Cell) (c:Cell):Int:=firstF l c (plcF l (markC 0 c))
theorem plcF_mem {l:List Cell} {k i:Int} (h:i ∈ plcF l k):0≤i∧i<l.length:=by
 unfold plcF at h
 obtain ⟨j,hj,rfl⟩:=List.mem_map.1 h
 have:=(List.mem_filter.1 hj).1
 rw [List.mem_range] at this
 omega
theorem plcF_len (l:List Cell) (k:Int):(plcF l k).length≤l.length:=by
 unfold plcF
 rw [List.length_map]
 have:=List.length_filter_le (fun i=>decide (markC 0 (l.getD i cellD)=k)) (List.range l.length)
 rw [List.length_range] at this
 exact this
theorem eqvA_alone (c d:Cell):eqvA false (.mk 0 [] [c]) (.mk 0 [] [d])=eqvC false c d:=by
 simp [eqvA,eqvCs,intsP]
theorem finder1_a (l:List Cell) (c:Cell) (hl:l.length≤100000) (hc:okC c) (hs:∀ d ∈ l,okC d) :
 ACalls Tryz.prog 160 [.agg (cellV c),.ep 1 [[.sem (plcR (plcF l))]] 0 0,.ep 1 [[.sl 7 (l.map cellR)]] 0 0] (nA (placeP l c)):=by
 have hB:maxB=1000000000:=rfl
 obtain ⟨b1,b2,b3,b4,b5⟩:=hc.parts
 have c1:=scalar_a c b2 b3 b4
 have c2:=mark_a c 0 hc ⟨by omega,by omega⟩
 have hmr:=markC_rng c 0 ⟨by omega,by omega⟩
 have hE0:placeP l c=firstF l c (plcF l (markC 0 c)):=rfl
 have hmem:∀ i ∈ plcF l (markC 0 c),0≤i∧i<l.length:=fun i hi=>plcF_mem hi
 have hlen:=plcF_len l (markC 0 c)
 have hlk:=plcR_look (F:=plcF l) hmr.1 hmr.2
 have lI:=intsA_len .i64 (plcF l (markC 0 c))
 have lL:((l.map cellR).length:Int)=l.length:=by simp
 generalize placeP l c=R at hE0 ⊢
 generalize plcF l=G at *
 generalize markC 0 c=m at *
 generalize G m=is at *
 refine acalls_of code_find_finder_1 (by simp [fn_find_finder_1]) fun C hC => ?_
 refine wk5 ?_
 refine r_lookG hlk ?_
 refine rrun5 ?_
 refine rg_nil ⟨rfl,?_⟩
 refine wk5 ?_
 refine aw_loopB [2,5,13,14] [1] (fun j:Nat=>[(15,nA j)]) (fun _=>[]) 2 (fun j=>j≤is.length∧R=firstF l c (is.drop j)) (fun j=>is.length - j) 0 ⟨Nat.zero_le _,hE0⟩ ?_
 rintro j ⟨hj,hE⟩
 dsimp only [List.cons_append,List.nil_append] at hj hE ⊢
 clear hlk c2
 by_cases hlt:j<is.length
 ·obtain ⟨i,hi⟩:∃ i,is[j]? = some i:=⟨_,List.getElem?_eq_getElem hlt⟩
  have hik:=int_at (k:=.i64) hi
  obtain ⟨i0,i1⟩:=hmem i (List.mem_of_getElem? hi)
  rw [firstF_at l c hi] at hE
  have hil:i.toNat<l.length:=by omega
  have hdl:l[i.toNat]? = some (l.getD i.toNat cellD):=by rw [List.getD_eq_getElem?_getD,List.getElem?_eq_getElem hil]; rfl
  have hdk:=cell_at hdl
  have hdo:=hs _ (List.mem_of_getElem? hdl)
  generalize l.getD i.toNat cellD=d at *
  obtain ⟨d1,d2,d3,d4,d5⟩:=hdo.parts
  have c3:=scalar_a d d2 d3 d4
  have c4:=match_a (.mk 0 [] [c]) (.mk 0 [] [d])
  rw [eqvA_alone] at c4
  clear c1
  cases hb:eqvC false c d
  ·rw [hb] at c4 hE
   simp only [Bool.false_eq_true,if_false] at hE
   refine wk5 ?_
   exact ⟨j+1,by omega,⟨by omega,hE⟩,wkR hC.m []⟩
  ·rw [hb] at c4 hE
   simp only [if_true] at hE
   subst hE
   refine wk5 ?_
   exact fin
 ·rw [List.drop_eq_nil_of_le (by omega),firstF] at hE
  subst hE
  refine wk5 ?_
  exact fin
def fromF (one:Bool):Nat→List Int→List Int→Option (List Int)
 | _,[],F=>some F
 | i,k::ks,F=>if k > 2048 - (F.length:Int) then none else fromF one (i+1) ks (F++List.replicate k.toNat (if one then 0 else (i:Int)))
theorem fromF_at (one:Bool) {l:List Int} {i:Nat} {k:Int} (h:l[i]? = some k) (F:List Int) :
 fromF one i (l.drop i) F=if k > 2048 - (F.length:Int) then none else fromF one (i+1) (l.drop (i+1)) (F++List.replicate k.toNat (if one then 0 else (i:Int))):=by
 rw [dropA_cons h,fromF]
def repL (N A:Arr) (first:Bool):List Int:=if N.shape.length=0 then List.replicate ((paxS A).getD (paxN A first) 0).toNat ((intsR N).1.headD 0) else (intsR N).1
def repP (N A:Arr) (first:Bool):Arr × Int :=
 if (intsR N).2≠0 then (zA,(intsR N).2) else
 if (intsR N).1.any (fun k=>decide (k<0)) then (zA,3) else
 if N.shape.length≠0∧(paxS A).getD (paxN A first) 0≠1∧((intsR N).1.length:Int)≠(paxS A).getD (paxN A first) 0 then (zA,4) else
 match fromF (decide ((paxS A).getD (paxN A first) 0=1)) 0 (repL N A first) [] with
 | none=>(zA,7)
 | some F=>rowsP N A (paxS A) (paxN A first) F
def expL:Nat→List Int→List Int
 | _,[]=>[]
 | o,k::ks=>if k=1 then (o:Int)::expL (o+1) ks else -1::expL o ks
def onesN (l:List Int):Nat:=(l.filter fun k=>decide (k=1)).length
def expP (N A:Arr) (first:Bool):Arr × Int :=
 if (intsR N).2≠0 then (zA,(intsR N).2) else
 if bitsP (intsR N).1=false then (zA,3) else
 if (paxS A).getD (paxN A first) 0=1 then rowsP N A (paxS A) (paxN A first) ((expL 0 (intsR N).1).map fun k=>min k 0) else
 if (onesN (intsR N).1:Int)≠(paxS A).getD (paxN A first) 0 then (zA,4) else
 rowsP N A (paxS A) (paxN A first) (expL 0 (intsR N).1)
theorem expL_len:∀ (o:Nat) (l:List Int),(expL o l).length=l.length
 | _,[]=>rfl
 | o,k::ks=>by rw [expL]; split<;>simp [expL_len]
theorem expL_lt:∀ (o:Nat) (l:List Int),∀ z ∈ expL o l,z<(o+onesN l:Nat) ∧ -1≤z
 | _,[],z,h=>by simp [expL] at h
 | o,k::ks,z,h=>by
   rw [expL] at h
   have ho:onesN (k::ks)=(if k=1 then 1 else 0)+onesN ks:=by
    unfold onesN; rw [List.filter_cons]; split<;>rename_i hk<;>simp at hk<;>simp [hk]; omega
   split at h
   ·rename_i hk
    rw [ho,if_pos hk]
    rcases List.mem_cons.1 h with rfl|h
    ·omega
    ·have:=expL_lt (o+1) ks z h; omega
   ·rename_i hk
    rw [ho,if_neg hk]
    rcases List.mem_cons.1 h with rfl|h
    ·omega
    ·have:=expL_lt o ks z h; omega
theorem oneN_take {l:List Int} {i:Nat} {k:Int} (h:l[i]? = some k):onesN (l.take (i+1))=onesN (l.take i)+if k=1 then 1 else 0:=by
 unfold onesN
 rw [takeA_snoc h,List.filter_append,List.length_append,List.filter_cons]
 split<;>rename_i hk<;>simp at hk<;>simp [hk]
theorem expL_at:∀ (l:List Int) (o i:Nat) (k:Int),l[i]? = some k→(expL o l)[i]? = some (if k=1 then ((o+onesN (l.take i):Nat):Int) else -1)
 | [],o,i,k,h=>by simp at h
 | x::xs,o,0,k,h=>by
   simp only [List.getElem?_cons_zero,Option.some.injEq] at h
   subst h
   rw [expL]
   split<;>simp [onesN]
 | x::xs,o,i+1,k,h=>by
   simp only [List.getElem?_cons_succ] at h
   have ho:onesN ((x::xs).take (i+1))=(if x=1 then 1 else 0)+onesN (xs.take i):=by
    unfold onesN; rw [List.take_succ_cons,List.filter_cons]; split<;>rename_i hk<;>simp at hk<;>simp [hk]; omega
   rw [expL]
   split
   ·rename_i hk
    rw [List.getElem?_cons_succ,expL_at xs (o+1) i k h,ho,if_pos hk,Nat.add_assoc]
   ·rename_i hk
    rw [List.getElem?_cons_succ,expL_at xs o i k h,ho,if_neg hk,Nat.zero_add]
end Go.Proofs.YtnnipocjapblkaaGreat
