/- The scalar functions of two arrays, to any depth: the walk through the cells. -/
import Derived.Test.YtnnipocjapblkaaGreatK23
import Derived.Test.YtnnipocjapblkaaGreatK07
import Derived.Test.YtnnipocjapblkaaGreatK17
import Derived.Test.YtnnipocjapblkaaGreatK04
import Derived.Test.YtnnipocjapblkaaGreatK08
set_option maxRecDepth 10000
set_option maxHeartbeats 4000000
namespace Go.Proofs.YtnnipocjapblkaaGreat
set_option linter.unusedVariables false
open Go.RowKit
def errL:List Int→Int
 | []=>0
 | e::es=>if e≠0 then e else errL es
def cntP (A B:Arr):Nat:=if A.shape.length=0 then B.cells.length else A.cells.length
noncomputable def twoS (two:Arr→Arr→Arr × Int) (f:Int) (A B:Arr):Arr × Int :=
 if isTwoB f=false then (zA,8) else
 if (conf A.shape B.shape).2≠0 then (zA,(conf A.shape B.shape).2) else
 if errL ((List.range (cntP A B)).map fun i=>(twoC two f (pickP A i) (pickP B i)).2)≠0 then (zA,errL ((List.range (cntP A B)).map fun i=>(twoC two f (pickP A i) (pickP B i)).2)) else
 (.mk (A.s ||| B.s) (conf A.shape B.shape).1 ((List.range (cntP A B)).map fun i=>(twoC two f (pickP A i) (pickP B i)).1),0)
noncomputable def twoA (f:Int):Nat→Arr→Arr→Arr × Int
 | 0=>twoS (fun _ _=>(zA,3)) f
 | d+1=>twoS (twoA f d) f
theorem conf_ok {s t:List Int} (h:(conf s t).2=0):s.length=0∨t.length=0∨s=t:=by
 unfold conf at h
 split at h
 ·exact .inl (by assumption)
 ·split at h
  ·exact .inr (.inl (by assumption))
  ·split at h
   ·cases h
   ·split at h
    ·cases h
    ·rename_i h4
     rw [intsP_eq] at h4
     exact .inr (.inr (by simpa using h4))
theorem pickP_l {A B:Arr} (hA:okTB A) (hB:okTB B) (h:(conf A.shape B.shape).2=0) {i:Nat} (hi:i<cntP A B):A.cells[if A.shape.length=0 then 0 else i]? = some (pickP A i):=by
 have hlt:(if A.shape.length=0 then 0 else i)<A.cells.length:=by
  by_cases h0:A.shape.length=0
  ·rw [if_pos h0,hA.one (List.eq_nil_of_length_eq_zero h0)]; exact Nat.one_pos
  ·rw [if_neg h0]; unfold cntP at hi; rw [if_neg h0] at hi; exact hi
 unfold pickP
 rw [List.getD_eq_getElem?_getD,List.getElem?_eq_getElem hlt]; rfl
theorem pickP_r {A B:Arr} (hA:okTB A) (hB:okTB B) (h:(conf A.shape B.shape).2=0) {i:Nat} (hi:i<cntP A B):B.cells[if B.shape.length=0 then 0 else i]? = some (pickP B i):=by
 have hlt:(if B.shape.length=0 then 0 else i)<B.cells.length:=by
  by_cases h0:B.shape.length=0
  ·rw [if_pos h0,hB.one (List.eq_nil_of_length_eq_zero h0)]; exact Nat.one_pos
  ·rw [if_neg h0]
   unfold cntP at hi
   by_cases h1:A.shape.length=0
   ·rw [if_pos h1] at hi; exact hi
   ·rw [if_neg h1] at hi
    rcases conf_ok h with h2|h2|h2
    ·exact absurd h2 h1
    ·exact absurd h2 h0
    ·have:=hA.2.2; have h3:=hB.2.2; rw [h2] at this; rw [h3] at this; omega
 unfold pickP
 rw [List.getD_eq_getElem?_getD,List.getElem?_eq_getElem hlt]; rfl
theorem twoS_a {p:Arr→Prop} (two:Arr→Arr→Arr × Int) (f:Int) (A B:Arr) (hA:okTB A) (hB:okTB B) (kA:∀ c ∈ A.cells,okTC p c) (kB:∀ c ∈ B.cells,okTC p c)
 (ht:∀ x y,okTC p x→okTC p y→ACalls Tryz.prog 152 [nA f,.agg (cellV x),.agg (cellV y)] (.tup [.agg (cellV (twoC two f x y).1),nA (twoC two f x y).2])) :
 ACalls Tryz.prog 87 [nA f,.agg (arrV A),.agg (arrV B)] (.tup [.agg (arrV (twoS two f A B).1),nA (twoS two f A B).2]):=by
 have hB0:maxB=1000000000:=rfl
 have lsA:=hA.len
 have lsB:=hB.len
 have lcA:=hA.cells
 have lcB:=hB.cells
 have cc:=conf_a A B (by omega) (by omega)
 have cj:=join_a A.s B.s hA.1 hB.1
 have ls:=intsA_len .i64 A.shape
 have lA:=cells_len A
 have lB:=cells_len B
 unfold twoS
 cases h1:isTwoB f with
 | false =>
   have c1:=isTwo_no h1
   rw [if_pos rfl]
   refine acalls_of code_scalar_Two (by simp [fn_scalar_Two]) fun C hC => ?_
   refine wk5 ?_
   exact fin
 | true =>
 have c1:=isTwo_yes h1
 rw [if_neg (by decide)]
 by_cases h2:(conf A.shape B.shape).2=0
 ·rw [if_neg (fun h=>h h2)]
  have gl:∀ i,i<cntP A B→A.cells[if A.shape.length=0 then 0 else i]? = some (pickP A i):=fun i hi=>pickP_l hA hB h2 hi
  have gr:∀ i,i<cntP A B→B.cells[if B.shape.length=0 then 0 else i]? = some (pickP B i):=fun i hi=>pickP_r hA hB h2 hi
  rw [h2] at cc
  generalize (conf A.shape B.shape).1=sh at cc ⊢
  have hn:cntP A B≤2048:=by unfold cntP; split<;>omega
  have hcnt:(A.shape.length=0∧cntP A B=B.cells.length)∨(A.shape.length≠0∧cntP A B=A.cells.length):=by
   unfold cntP; split
   ·exact .inl ⟨by assumption,rfl⟩
   ·exact .inr ⟨by assumption,rfl⟩
  generalize cntP A B=n at gl gr hn hcnt ⊢
  obtain ⟨g,hg⟩:∃ g,g=fun i=>twoC two f (pickP A i) (pickP B i):=⟨_,rfl⟩
  have hg1:(fun i=>(twoC two f (pickP A i) (pickP B i)).1)=fun i=>(g i).1:=by rw [hg]
  have hg2:(fun i=>(twoC two f (pickP A i) (pickP B i)).2)=fun i=>(g i).2:=by rw [hg]
  rw [hg1,hg2]
  have hcall:∀ i,i<n→ACalls Tryz.prog 152 [nA f,.agg (cellV (pickP A i)),.agg (cellV (pickP B i))] (.tup [.agg (cellV (g i).1),nA (g i).2]):=fun i hi=>by
   rw [hg]; exact ht _ _ (kA _ (List.mem_of_getElem? (gl i hi))) (kB _ (List.mem_of_getElem? (gr i hi)))
  clear hg hg1 hg2 ht
  obtain ⟨CS,hCS⟩:∃ CS,CS=(List.range n).map fun i=>(g i).1:=⟨_,rfl⟩
  obtain ⟨ES,hES⟩:∃ ES,ES=(List.range n).map fun i=>(g i).2:=⟨_,rfl⟩
  have hCg:∀ i,i<n→CS[i]? = some (g i).1:=fun i hi=>by rw [hCS]; simp [hi]
  have hEg:∀ i,i<n→ES[i]? = some (g i).2:=fun i hi=>by rw [hES]; simp [hi]
  have hCl:CS.length=n:=by rw [hCS]; simp
  have hEl:ES.length=n:=by rw [hES]; simp
  rw [← hCS,← hES]
  clear hCS hES
  subst hCl
  have e0:=rowK_zero cellV cellZ CS
  refine acalls_of code_scalar_Two (by simp [fn_scalar_Two]) fun C hC => ?_
  rcases hcnt with ⟨z1,z2⟩|⟨z1,z2⟩
  all_goals
   refine wk5 ?_
   refine aw_es 3 (rowK cellV cellZ CS 0) rfl (by dsimp only; rw [Int.toNat_natCast,← z2]; exact e0) ?_
   refine aw_loopB [0,4,5,6,7,8,10,11,48] [0,1,2,4] (fun k:Nat=>[(49,nA k)]) (fun k=>[(3,some ⟨true,false,54,7,rowK cellV cellZ CS k⟩)]) 5
    (fun k=>k≤CS.length∧errL ES=errL (ES.drop k)) (fun k=>CS.length - k) 0 ⟨Nat.zero_le _,rfl⟩ ?_
   rintro k ⟨hk,hE⟩
   dsimp only [List.cons_append,List.nil_append] at hk hE ⊢
   by_cases hlt:k<CS.length
   ·have p1:=pick_a A k _ (by omega) (by omega) (gl k hlt)
    have p2:=pick_a B k _ (by omega) (by omega) (gr k hlt)
    have c2:=hcall k hlt
    have hset:=rowK_set cellV cellZ CS k _ (hCg k hlt)
    have hget:=rowK_get cellV cellZ CS k hlt
    have hll:=rowK_len cellV cellZ CS k hk
    rw [dropA_cons (hEg k hlt),errL] at hE
    generalize pickP A k=X at p1 c2
    generalize pickP B k=Y at p2 c2
    generalize g k=r at c2 hset hE
    obtain ⟨c,e⟩:=r
    dsimp only at c2 hset hE
    by_cases he:e=0
    ·subst he
     rw [if_neg (fun h=>h rfl)] at hE
     refine wk5 ?_
     exact ⟨k+1,by omega,⟨by omega,hE⟩,wkR hC.m [] (by rw [← hset]; rfl)⟩
    ·rw [if_pos he] at hE
     rw [hE,if_pos he]
     refine wk5 ?_
     exact fin
   ·rw [List.drop_eq_nil_of_le (by omega),errL] at hE
    rw [hE,if_neg (fun h=>h rfl)]
    rw [rowK_end cellV cellZ CS k hlt,show CS.map cellV=CS.map cellR from by simp [cellR_eq]]
    refine wk5 ?_
    exact fin
 ·rw [if_pos h2]
  refine acalls_of code_scalar_Two (by simp [fn_scalar_Two]) fun C hC => ?_
  refine wk5 ?_
  exact fin
theorem twoA_a (f:Int):∀ (d:Nat) (A B:Arr),okT d A→okT d B→ACalls Tryz.prog 87 [nA f,.agg (arrV A),.agg (arrV B)] (.tup [.agg (arrV (twoA f d A B).1),nA (twoA f d A B).2])
 | 0,A,B,hA,hB=>twoS_a (p:=fun _=>False) _ f A B hA.1 hB.1 hA.2 hB.2 fun x y hx hy=>twoCells_a _ f x y hx hy fun h=>by
  exfalso
  rcases h with h|h
  ·rcases hx.2 with h1|h1|⟨_,_,_,_,_,h1⟩
   ·omega
   ·omega
   ·exact h1
  ·rcases hy.2 with h1|h1|⟨_,_,_,_,_,h1⟩
   ·omega
   ·omega
   ·exact h1
 | d+1,A,B,hA,hB=>twoS_a (p:=okT d) _ f A B hA.1 hB.1 hA.2 hB.2 fun x y hx hy=>twoCells_a _ f x y hx hy fun _=>twoA_a f d _ _ (okT_cont hx) (okT_cont hy)
theorem and_low {n:Int} (h0:0≤n) (h1:n<4294967296):absInt .and .u64 n 4294967295=some (.int .u64 n):=by
 obtain ⟨m,rfl⟩:=Int.eq_ofNat_of_zero_le h0
 show some (Value.int .u64 (IntKind.u64.wrap (BitVec.ofInt 64 (m:Int) &&& BitVec.ofInt 64 (4294967295:Int)).toNat))=_
 have e:(BitVec.ofInt 64 (m:Int) &&& BitVec.ofInt 64 (4294967295:Int)).toNat=m:=by
  rw [BitVec.toNat_and,show (BitVec.ofInt 64 (m:Int)).toNat=m from by simp; omega,show (BitVec.ofInt 64 (4294967295:Int)).toNat=2 ^ 32 - 1 from rfl,Nat.and_two_pow_sub_one_eq_mod]
  exact Nat.mod_eq_of_lt (by omega)
 rw [e,IntWalk.u64_in _ ⟨by omega,by omega⟩]
theorem mul64_one {n:Int} (h0:0≤n) (h1:n<4294967296):ACalls Tryz.prog 213 [.lit (.int .u64 1),.lit (.int .u64 n)] (.tup [.lit (.int .u64 0),.lit (.int .u64 n)]):=by
 have e1:absInt .and .u64 1 4294967295=some (.int .u64 1):=and_low (by omega) (by omega)
 have e2:=and_low h0 h1
 have hp:(2:Int) ^ (min (32:Int).toNat IntKind.u64.bits)=4294967296:=rfl
 have q0:n / 4294967296=0:=by omega
 have wn:IntKind.u64.wrap (1 * n)=n:=by rw [Int.one_mul]; exact IntWalk.u64_in _ ⟨by omega,by omega⟩
 have m1:absInt .mul .u64 1 n=some (.int .u64 n):=by show some (Value.int .u64 (IntKind.u64.wrap (1 * n)))=_; rw [wn]
 have m2:absInt .mul .u64 (1 / 4294967296) n=some (.int .u64 0):=by show some (Value.int .u64 (IntKind.u64.wrap (0 * n)))=_; rw [Int.zero_mul]; rfl
 have a1:absInt .add .u64 0 (n / 4294967296)=some (.int .u64 0):=by rw [q0]; rfl
 have e3:absInt .and .u64 0 4294967295=some (.int .u64 0):=rfl
 have m3:absInt .mul .u64 1 (n / 4294967296)=some (.int .u64 0):=by rw [q0]; rfl
 have a2:absInt .add .u64 0 0=some (.int .u64 0):=rfl
 have m4:absInt .mul .u64 (1 / 4294967296) (n / 4294967296)=some (.int .u64 0):=by rw [q0]; rfl
 have a3:absInt .add .u64 0 (0 / 4294967296)=some (.int .u64 0):=rfl
 refine acalls_of code_math_bits_Mul64 (by simp [fn_math_bits_Mul64]) fun C hC => ?_
 refine wk5 ?_
 exact fin
theorem bmul_one {n:Int} (h0:0≤n) (h1:n<4294967296):ACalls Tryz.prog 180 [.lit (.int .u64 1),.lit (.int .u64 n)] (.tup [.lit (.int .u64 0),.lit (.int .u64 n)]):=by
 have c1:=mul64_one h0 h1
 refine acalls_of code_math_bits_Mul (by simp [fn_math_bits_Mul]) fun C hC => ?_
 refine wk5 ?_
 exact fin
def repR (v z:List AV) (n j:Nat):List (List AV):=List.replicate j v++List.replicate (n - j) z
theorem repR_len (v z:List AV) {n j:Nat} (h:j≤n):(repR v z n j).length=n:=by simp [repR]; omega
theorem repR_end (v z:List AV) (n:Nat):repR v z n n=List.replicate n v:=by simp [repR]
theorem repR_one (v z:List AV) {n:Nat} (h:1≤n):[v]++(List.replicate n z).drop [v].length=repR v z n 1:=by
 simp [repR]
theorem repR_step (v z:List AV) {n j c:Nat} (hj:j≤n) (hc:c=min (n - j) j):(repR v z n j).take j++(((repR v z n j).drop 0).take c++(repR v z n j).drop (j+c))=repR v z n (j+c):=by
 have h1:c≤j:=by omega
 have h2:j+c≤n:=by omega
 have e1:(repR v z n j).take j=List.replicate j v:=by
  unfold repR; rw [List.take_append_of_le_length (by simp),List.take_of_length_le (by simp)]
 have e2:((repR v z n j).drop 0).take c=List.replicate c v:=by
  unfold repR; rw [List.drop_zero,List.take_append_of_le_length (by simp; omega),List.take_replicate,Nat.min_eq_left h1]
 have e3:(repR v z n j).drop (j+c)=List.replicate (n - (j+c)) z:=by
  unfold repR; rw [List.drop_append,List.drop_of_length_le (by simp),List.nil_append,List.drop_replicate,List.length_replicate]
  congr 1; omega
 rw [e1,e2,e3,← List.append_assoc]
 unfold repR
 rw [List.replicate_append_replicate]
theorem repInt_a (z:Int) (n:Nat) (hn:n≤100000):ACalls Tryz.prog 136 [.sl 1 [[AV.lit (.int .i64 z)]],.lit (.int .i64 n)] (.sl 1 (List.replicate n ([AV.lit (.int .i64 z)]))):=by
 have w1:IntKind.u64.wrap 1=1:=rfl
 have w2:IntKind.u64.wrap (n:Int)=n:=IntWalk.u64_in _ ⟨by omega,by omega⟩
 have w3:IntKind.i64.wrap (n:Int)=n:=IntWalk.i64_in _ ⟨by omega,by omega⟩
 have c1:=bmul_one (n:=(n:Int)) (by omega) (by omega)
 obtain ⟨v,hv⟩:∃ v,v=[AV.lit (.int .i64 z)]:=⟨_,rfl⟩
 obtain ⟨zz,hzz⟩:∃ zz:List AV,zz=[AV.lit (.int .i64 0)]:=⟨_,rfl⟩
 rw [← hv]
 refine acalls_of code_slices_Repeat_int (by simp [fn_slices_Repeat_int]) fun C hC => ?_
 have loop:∀ (j0:Nat),j0≤n→(n=0∨1≤j0)→True:=fun _ _ _=>trivial
 by_cases h0:n=0
 ·subst h0
  refine wk5 ?_
  refine r_copyZ (id:=0) [0] (List.mem_singleton.2 rfl) rfl ?_
  refine rrun5 ?_
  refine rg_nil ⟨rfl,?_⟩
  refine wk5 ?_
  refine aw_loopB [7] [0] (fun j:Nat=>[(8,.lit (.int .i64 0))]) (fun j=>[]) 1 (fun j=>True) (fun j=>j) 0 trivial ?_
  rintro j -
  dsimp only [List.cons_append,List.nil_append]
  refine wk5 ?_
  exact fin
 have g1:1≤n:=by omega
 have hone:=repR_one v zz g1
 rw [hzz] at hone
 have hl0:(List.replicate n ([AV.lit (.int .i64 0)])).length=n:=List.length_replicate
 refine wk5 ?_
 refine r_copy ?_ ?_
 ·dsimp only; rw [List.length_replicate]; simp; omega
 refine rrun5 ?_
 refine rg_nil ⟨rfl,?_⟩
 refine aw_es 0 (repR v ([AV.lit (.int .i64 0)]) n 1) rfl (by dsimp only; rw [Int.toNat_natCast]; exact hone) ?_
 refine wk5 ?_
 refine aw_loopB [7] [] (fun j:Nat=>[(8,.lit (.int .i64 j))]) (fun j=>[(0,some ⟨true,false,3,1,repR v ([AV.lit (.int .i64 0)]) n j⟩)]) 1 (fun j=>1≤j∧j≤n) (fun j=>n - j) 1 ⟨Nat.le_refl _,g1⟩ ?_
 rintro j ⟨j1,j2⟩
 dsimp only [List.cons_append,List.nil_append]
 have hlen:=repR_len v ([AV.lit (.int .i64 0)]) j2
 have hlenI:((repR v ([AV.lit (.int .i64 0)]) n j).length:Int)=n:=by rw [hlen]
 by_cases hlt:j<n
 ·have hst:=repR_step v ([AV.lit (.int .i64 0)]) j2 (c:=min (n - j) j) rfl
  obtain ⟨c,hc⟩:∃ c,c=min (n - j) j:=⟨_,rfl⟩
  rw [← hc] at hst
  refine wk5 ?_
  refine r_sliceW (ob:=⟨true,false,3,1,repR v ([AV.lit (.int .i64 0)]) n j⟩) j n ?_ (hhi:=hlenI.symm)
  refine rrun5 ?_
  refine r_sliceW (ob:=⟨true,false,3,1,repR v ([AV.lit (.int .i64 0)]) n j⟩) 0 j ?_
  refine rrun5 ?_
  refine r_copyW c (repR v ([AV.lit (.int .i64 0)]) n (j+c)) ?_ ?_ ?_ hst ?_
  ·omega
  ·dsimp only; omega
  ·dsimp only; omega
  refine rrun5 ?_
  refine rg_nil ⟨rfl,?_⟩
  refine wk5 ?_
  exact ⟨j+c,by omega,by omega,wkR hC.m []⟩
 ·obtain rfl:j=n:=by omega
  rw [repR_end]
  have hr:((List.replicate j v).length:Int)=j:=by simp
  refine wk5 ?_
  exact fin
theorem repCell_a (z:Cell) (n:Nat) (hn:n≤100000):ACalls Tryz.prog 181 [.sl 7 [cellV z],.lit (.int .i64 n)] (.sl 7 (List.replicate n (cellV z))):=by
 have w1:IntKind.u64.wrap 1=1:=rfl
 have w2:IntKind.u64.wrap (n:Int)=n:=IntWalk.u64_in _ ⟨by omega,by omega⟩
 have w3:IntKind.i64.wrap (n:Int)=n:=IntWalk.i64_in _ ⟨by omega,by omega⟩
 have c1:=bmul_one (n:=(n:Int)) (by omega) (by omega)
 obtain ⟨v,hv⟩:∃ v,v=cellV z:=⟨_,rfl⟩
 obtain ⟨zz,hzz⟩:∃ zz:List AV,zz=cellZ:=⟨_,rfl⟩
 rw [← hv]
 refine acalls_of code_slices_Repeat_api_Cell (by simp [fn_slices_Repeat_api_Cell]) fun C hC => ?_
 have loop:∀ (j0:Nat),j0≤n→(n=0∨1≤j0)→True:=fun _ _ _=>trivial
 by_cases h0:n=0
 ·subst h0
  refine wk5 ?_
  refine r_copyZ (id:=0) [0] (List.mem_singleton.2 rfl) rfl ?_
  refine rrun5 ?_
  refine rg_nil ⟨rfl,?_⟩
  refine wk5 ?_
  refine aw_loopB [7] [0] (fun j:Nat=>[(8,.lit (.int .i64 0))]) (fun j=>[]) 1 (fun j=>True) (fun j=>j) 0 trivial ?_
  rintro j -
  dsimp only [List.cons_append,List.nil_append]
  refine wk5 ?_
  exact fin
 have g1:1≤n:=by omega
 have hone:=repR_one v zz g1
 rw [hzz] at hone
 have hl0:(List.replicate n (cellZ)).length=n:=List.length_replicate
 refine wk5 ?_
 refine r_copy ?_ ?_
 ·dsimp only; rw [List.length_replicate]; simp; omega
 refine rrun5 ?_
 refine rg_nil ⟨rfl,?_⟩
 refine aw_es 0 (repR v (cellZ) n 1) rfl (by dsimp only; rw [Int.toNat_natCast]; exact hone) ?_
 refine wk5 ?_
 refine aw_loopB [7] [] (fun j:Nat=>[(8,.lit (.int .i64 j))]) (fun j=>[(0,some ⟨true,false,54,7,repR v (cellZ) n j⟩)]) 1 (fun j=>1≤j∧j≤n) (fun j=>n - j) 1 ⟨Nat.le_refl _,g1⟩ ?_
 rintro j ⟨j1,j2⟩
 dsimp only [List.cons_append,List.nil_append]
 have hlen:=repR_len v (cellZ) j2
 have hlenI:((repR v (cellZ) n j).length:Int)=n:=by rw [hlen]
 by_cases hlt:j<n
 ·have hst:=repR_step v (cellZ) j2 (c:=min (n - j) j) rfl
  obtain ⟨c,hc⟩:∃ c,c=min (n - j) j:=⟨_,rfl⟩
  rw [← hc] at hst
  refine wk5 ?_
  refine r_sliceW (ob:=⟨true,false,54,7,repR v (cellZ) n j⟩) j n ?_ (hhi:=hlenI.symm)
  refine rrun5 ?_
  refine r_sliceW (ob:=⟨true,false,54,7,repR v (cellZ) n j⟩) 0 j ?_
  refine rrun5 ?_
  refine r_copyW c (repR v (cellZ) n (j+c)) ?_ ?_ ?_ hst ?_
  ·omega
  ·dsimp only; omega
  ·dsimp only; omega
  refine rrun5 ?_
  refine rg_nil ⟨rfl,?_⟩
  refine wk5 ?_
  exact ⟨j+c,by omega,by omega,wkR hC.m []⟩
 ·obtain rfl:j=n:=by omega
  rw [repR_end]
  have hr:((List.replicate j v).length:Int)=j:=by simp
  refine wk5 ?_
  exact fin
end Go.Proofs.YtnnipocjapblkaaGreat
