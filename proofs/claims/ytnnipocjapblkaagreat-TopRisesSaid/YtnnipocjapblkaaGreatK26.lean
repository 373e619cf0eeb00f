/- Take and drop: the parts of cut. -/
import Derived.Test.YtnnipocjapblkaaGreatK25
import Derived.Test.YtnnipocjapblkaaGreatK24
import Derived.Test.YtnnipocjapblkaaGreatK07
import Derived.Test.YtnnipocjapblkaaGreatK04
import Derived.KernelRfl
import Derived.Test.YtnnipocjapblkaaGreatProg
set_option maxRecDepth 10000
set_option maxHeartbeats 4000000
namespace Go.Proofs.YtnnipocjapblkaaGreat
set_option linter.unusedVariables false
open Go.RowKit
section
variable {P:Program} {tt:List (Nat × AV)} {hh:Hp} {nn dd:Nat} {g:Option (Nat × Bool)} {l:List AInst} {acc:List SD} {K:List SD→St→Prop}
theorem r_maxC {x y:Operand} {k:IntKind} {a b:Int} (v:Int) (hv:(b≤a∧v=a)∨(a<b∧v=b)) (h:RG P (⟨⟨some dd,g,.mm true x y⟩,.lit (.int k v),[],[],0⟩::acc) l ⟨(dd,.lit (.int k v))::tt,hh,nn⟩ K)
 (hg:gOK ⟨tt,hh,nn⟩ g:=by first|exact True.intro|rfl) (hx:ev ⟨tt,hh,nn⟩ x=.lit (.int k a):=by rfl) (hy:ev ⟨tt,hh,nn⟩ y=.lit (.int k b):=by rfl):RG P acc (⟨some dd,g,.mm true x y⟩::l) ⟨tt,hh,nn⟩ K :=
  RG.step ((q_mm hg hx hy).cast (by simp only [cond_true]; rcases hv with ⟨h1,rfl⟩|⟨h1,rfl⟩; rw [if_neg (by omega)]; rw [if_pos h1])) h
theorem r_minC {x y:Operand} {k:IntKind} {a b:Int} (v:Int) (hv:(a≤b∧v=a)∨(b<a∧v=b)) (h:RG P (⟨⟨some dd,g,.mm false x y⟩,.lit (.int k v),[],[],0⟩::acc) l ⟨(dd,.lit (.int k v))::tt,hh,nn⟩ K)
 (hg:gOK ⟨tt,hh,nn⟩ g:=by first|exact True.intro|rfl) (hx:ev ⟨tt,hh,nn⟩ x=.lit (.int k a):=by rfl) (hy:ev ⟨tt,hh,nn⟩ y=.lit (.int k b):=by rfl):RG P acc (⟨some dd,g,.mm false x y⟩::l) ⟨tt,hh,nn⟩ K :=
  RG.step ((q_mm hg hx hy).cast (by simp only [cond_false]; rcases hv with ⟨h1,rfl⟩|⟨h1,rfl⟩; rw [if_neg (by omega)]; rw [if_pos h1])) h
end
def greK (k:Int):Int:=if k > 2049∨k < -2049 then 2049 else max k (-k)
theorem greK_rng (k:Int):0≤greK k∧greK k≤2049:=by unfold greK; split<;>omega
theorem cgreat_a (k:Int) (h0 : -9223372036854775808≤k) (h1:k≤9223372036854775807):ACalls Tryz.prog 75 [nA k] (nA (greK k)):=by
 unfold greK
 refine acalls_of code_cut_great (by simp [fn_cut_great]) fun C hC => ?_
 by_cases h:k > 2049
 ·rw [if_pos (.inl h)]
  refine wk5 ?_
  exact fin
 ·by_cases h2:k < -2049
  ·rw [if_pos (.inr h2)]
   refine wk5 ?_
   exact fin
  ·rw [if_neg (by omega)]
   refine wk5 ?_
   refine r_maxC (a:=k) (b := -k) (max k (-k)) (by omega) ?_
   refine rrun5 ?_
   refine rg_nil ⟨rfl,?_⟩
   refine wk5 ?_
   exact fin
def axP (N A:Arr):List Int × List Int × Int :=
 if (intsR N).2≠0 then ([],[],(intsR N).2) else
 if A.shape.length > 0 then (if (intsR N).1.length > A.shape.length then ([],[],4) else ((intsR N).1,A.shape,0)) else
 if (intsR N).1.length > 6 then ([],[],7) else ((intsR N).1,List.replicate (intsR N).1.length 1,0)
theorem axes_a (N A:Arr) (hN:arrOK N) (kN:okJ N) (hA:A.shape.length≤6):ACalls Tryz.prog 73 [.agg (arrV N),.agg (arrV A)] (.tup [.sl 1 (intsA .i64 (axP N A).1),.sl 1 (intsA .i64 (axP N A).2.1),nA (axP N A).2.2]):=by
 have c0:=arrInts_a N hN kN.ok
 have ls:=intsA_len .i64 A.shape
 have ll:=intsA_len .i64 (intsR N).1
 have hle:(intsR N).1.length≤2048:=by
  have:=kN.cells
  unfold intsR
  split
  ·exact Nat.zero_le _
  ·split
   ·rename_i l hl; have:=intsF_len hl; dsimp only; omega
   ·exact Nat.zero_le _
 unfold axP
 by_cases h0:(intsR N).2=0
 ·rw [h0] at c0
  rw [if_neg (fun h=>h h0)]
  generalize (intsR N).1=l at c0 ll hle ⊢
  by_cases h1:A.shape.length > 0
  ·have c1:=cloneInt_a (intsA .i64 A.shape) (by omega)
   rw [if_pos h1]
   by_cases h2:l.length > A.shape.length
   ·rw [if_pos h2]
    refine acalls_of code_cut_axes (by simp [fn_cut_axes]) fun C hC => ?_
    refine wk5 ?_
    exact fin
   ·rw [if_neg h2]
    refine acalls_of code_cut_axes (by simp [fn_cut_axes]) fun C hC => ?_
    refine wk5 ?_
    exact fin
  ·rw [if_neg h1]
   by_cases h2:l.length > 6
   ·rw [if_pos h2]
    refine acalls_of code_cut_axes (by simp [fn_cut_axes]) fun C hC => ?_
    refine wk5 ?_
    exact fin
   ·rw [if_neg h2]
    have c1:=repInt_a 1 l.length (by omega)
    rw [show List.replicate l.length [AV.lit (.int .i64 1)]=intsA .i64 (List.replicate l.length 1) from by simp [intsA]] at c1
    refine acalls_of code_cut_axes (by simp [fn_cut_axes]) fun C hC => ?_
    refine wk5 ?_
    exact fin
 ·rw [if_pos h0]
  generalize (intsR N).2=e at *
  refine acalls_of code_cut_axes (by simp [fn_cut_axes]) fun C hC => ?_
  refine wk5 ?_
  exact fin
theorem open_m (s:List Int) (h0:0<s.length) (h1:s.length≤6):AMut Tryz.prog 74 [.sl 1 (intsA .i64 s)] [] 0 (.agg [.own 0,.own 1]) [(0,some ⟨true,false,3,1,intsA .i64 (List.replicate s.length 0)⟩),(1,some ⟨true,false,3,1,intsA .i64 s⟩)] 2:=by
 have ls:=intsA_len .i64 s
 have e0:List.replicate s.length [AV.lit (.int .i64 0)]=intsA .i64 (List.replicate s.length 0):=by simp [intsA]
 have c1:=cloneInt_m (intsA .i64 s) (by omega) (by omega)
 refine amut_of code_cut_open (by simp [fn_cut_open]) fun C hC => ?_
 refine wk5 ?_
 refine r_callN [] c1 ?_
 refine rrun5 ?_
 refine rg_nil ⟨rfl,?_⟩
 refine aw_es 1 (intsA .i64 (List.replicate s.length 0)) rfl (by dsimp only; rw [Int.toNat_natCast]; exact e0) ?_
 refine wk5 ?_
 exact fin_m [(0,1),(1,2)]
theorem open_a (s:List Int) (h1:s.length≤6):ACalls Tryz.prog 74 [.sl 1 (intsA .i64 s)] (.agg [.sl 1 (intsA .i64 (List.replicate s.length 0)),.sl 1 (intsA .i64 s)]):=by
 have ls:=intsA_len .i64 s
 have e0:List.replicate s.length [AV.lit (.int .i64 0)]=intsA .i64 (List.replicate s.length 0):=by simp [intsA]
 have c1:=cloneInt_a (intsA .i64 s) (by omega)
 refine acalls_of code_cut_open (by simp [fn_cut_open]) fun C hC => ?_
 refine wk5 ?_
 rw [← e0]
 exact fin
theorem told_a (N A:Arr) (s:List Int) (cs:List Cell) (hN:okA N) (hA:A.s<18446744073709551616):ACalls Tryz.prog 76 [.agg (arrV N),.agg (arrV A),.sl 1 (intsA .i64 s),.sl 7 (cs.map cellR)] (.agg (arrV (.mk (A.s ||| totA N) s cs))):=by
 have c1:=total_a N hN
 have c2:=join_a A.s (totA N) hA (totA_lt N hN)
 refine acalls_of code_cut_told (by simp [fn_cut_told]) fun C hC => ?_
 refine wk5 ?_
 exact fin
def addL (d f:List Int):List Int:=List.zipWith (·+·) d f
def addK (d f:List Int) (j:Nat):List Int:=(addL d f).take j++d.drop j
theorem addL_len {d f:List Int} (h:d.length=f.length):(addL d f).length=d.length:=by simp [addL,h]
theorem addK_zero (d f:List Int):addK d f 0=d:=by simp [addK]
theorem addK_len {d f:List Int} (h:d.length=f.length) {j:Nat} (hj:j≤d.length):(addK d f j).length=d.length:=by
 have:=addL_len h
 simp [addK]; omega
theorem addK_end {d f:List Int} (h:d.length=f.length) {j:Nat} (hj:¬ j<d.length):addK d f j=addL d f:=by
 have:=addL_len h
 rw [addK,List.take_of_length_le (by omega),List.drop_eq_nil_of_le (by omega),List.append_nil]
theorem addK_get {d f:List Int} (h:d.length=f.length) {j:Nat} {x:Int} (hx:d[j]? = some x):(addK d f j)[j]? = some x:=by
 have hl:=addL_len h
 have hj:=(List.getElem?_eq_some_iff.1 hx).1
 rw [addK,List.getElem?_append_right (by simp; omega),List.length_take,Nat.min_eq_left (by omega),Nat.sub_self,List.getElem?_drop,Nat.add_zero]
 exact hx
theorem addK_set {d f:List Int} (h:d.length=f.length) {j:Nat} {x y:Int} (hx:d[j]? = some x) (hy:f[j]? = some y):(addK d f j).set j (x+y)=addK d f (j+1):=by
 have hl:=addL_len h
 have hj:=(List.getElem?_eq_some_iff.1 hx).1
 have hz:(addL d f)[j]? = some (x+y):=by unfold addL; rw [List.getElem?_zipWith,hx,hy]
 rw [addK,addK,List.set_append_right _ _ (by simp; omega),takeA_snoc hz,dropA_cons hx,List.length_take,Nat.min_eq_left (by omega),Nat.sub_self,List.set_cons_zero,List.append_assoc]
 rfl
theorem idx_lt {s d:List Int} {k:Int} (h:idx s d=(k,true)):0≤k∧k<prodL s:=by
 unfold idx at h
 split at h
 ·cases h
 ·rename_i hn
  have hl:d.length=s.length:=Classical.byContradiction fun hc=>hn (.inr hc)
  cases hc:idxC s d 0 with
  | none=>rw [hc] at h; cases h
  | some j =>
    rw [hc] at h
    simp only [idxF,Prod.mk.injEq,and_true] at h
    subst h
    obtain ⟨j,h1,h2,h3,_⟩:=idxC_some s d 0 _ hl hc
    omega
def seenC (fr sz s:List Int) (A:Arr) (i:Nat):Cell :=
 if (idx s (addL (digR sz i).2 fr)).2 then A.cells.getD (idx s (addL (digR sz i).2 fr)).1.toNat cellD else filC A
def seenL (fr sz s:List Int) (A:Arr) (n:Nat):List Cell:=(List.range n).map (seenC fr sz s A)
theorem seenL_len (fr sz s:List Int) (A:Arr) (n:Nat):(seenL fr sz s A n).length=n:=by simp [seenL]
theorem seenL_at (fr sz s:List Int) (A:Arr) {n i:Nat} (h:i<n):(seenL fr sz s A n)[i]? = some (seenC fr sz s A i):=by simp [seenL,h]
theorem seen_a (fr sz s:List Int) (A:Arr) (n:Nat) (hz:(cnt sz).2=0) (hn:(cnt sz).1=n) (hf:fr.length=sz.length) (hb:∀ f ∈ fr,-10000≤f∧f≤10000) (hs:(cnt s).2=0) (hc:prodL s=A.cells.length) (hAl:A.cells.length≤2048) :
 ACalls Tryz.prog 77 [.agg [.sl 1 (intsA .i64 fr),.sl 1 (intsA .i64 sz)],.agg (arrV A),.sl 1 (intsA .i64 s),nA n] (.sl 7 ((seenL fr sz s A n).map cellR)):=by
 have hB:maxB=1000000000:=rfl
 have hn2:n≤2048:=by have:=(cnt_le sz).2; omega
 have lsz:=cnt_len hz
 have ls:=cnt_len hs
 have smz:=cnt_small hz
 have c0:=fill_a A
 have lcs:=cells_len A
 have lfr:=intsA_len .i64 fr
 have hLl:=seenL_len fr sz s A n
 have hLa:∀ i,i<n→(seenL fr sz s A n)[i]? = some (seenC fr sz s A i):=fun i hi=>seenL_at fr sz s A hi
 generalize hL:seenL fr sz s A n=L at hLl hLa ⊢
 refine acalls_of code_cut_window_seen (by simp [fn_cut_window_seen]) fun C hC => ?_
 refine wk5 ?_
 refine aw_loopB [2,4,5,9,21] [0,1,2] (fun i:Nat=>[(10,.own 3),(22,nA i)]) (fun i=>[(3,some ⟨true,false,54,7,(L.take i).map cellR⟩)]) 4
  (fun i=>i≤n) (fun i=>n - i) 0 (Nat.zero_le _) ?_
 intro i hi
 dsimp only [List.cons_append,List.nil_append] at hi ⊢
 by_cases hlt:i<n
 ·have c1:=shAt_m sz (i:Int) hz (by omega) (by omega)
  have hpos:=pos_of_prod smz (by rw [← cnt_prod hz]; omega)
  have hdl:=digR_len sz (i:Int)
  have hdr:∀ x ∈ (digR sz (i:Int)).2,0≤x∧x≤1000000:=fun x hx=>by
   rcases digR_range sz (i:Int) smz x hx with h|⟨z,hz1,hz2⟩
   ·exact h
   ·have:=hpos z hz1; omega
  have hcell:seenC fr sz s A i=if (idx s (addL (digR sz (i:Int)).2 fr)).2 then A.cells.getD (idx s (addL (digR sz (i:Int)).2 fr)).1.toNat cellD else filC A:=rfl
  have hLi:=hLa i hlt
  generalize (digR sz (i:Int)).2=d at c1 hdl hdr hcell
  have hdf:d.length=fr.length:=by omega
  have ld:=intsA_len .i64 d
  have hml:((L.take i).map cellR).length=i:=by simp; omega
  have hsn:(L.take i).map cellR++[cellV (seenC fr sz s A i)]=(L.take (i+1)).map cellR:=by
   rw [takeA_snoc hLi]; simp [cellR_eq]
  refine wk5 ?_
  refine r_callN [] c1 ?_
  refine rrun5 ?_
  refine rg_nil ⟨rfl,?_⟩
  refine wk5 ?_
  refine aw_loopB [2,4,5,9,21,22,10,11,12,33] [0,1,2,3] (fun j:Nat=>[(34,nA j)]) (fun j=>[(4,some ⟨true,false,3,1,intsA .i64 (addK d fr j)⟩)]) 5
   (fun j=>j≤d.length) (fun j=>d.length - j) 0 (Nat.zero_le _) ?_ (hh:=by rw [addK_zero]; rfl)
  intro j hj
  dsimp only [List.cons_append,List.nil_append] at hj ⊢
  have hka:=intsA_len .i64 (addK d fr j)
  rw [addK_len hdf hj] at hka
  by_cases hjl:j<d.length
  ·obtain ⟨x,hx⟩:∃ x,d[j]? = some x:=⟨_,List.getElem?_eq_getElem hjl⟩
   obtain ⟨y,hy⟩:∃ y,fr[j]? = some y:=⟨_,List.getElem?_eq_getElem (by omega)⟩
   have hxr:=hdr x (List.mem_of_getElem? hx)
   have hyr:=hb y (List.mem_of_getElem? hy)
   have hxk:=int_at (k:=.i64) (addK_get hdf hx)
   have hyk:=int_at (k:=.i64) hy
   have hset:(intsA .i64 (addK d fr j)).set j [.lit (.int .i64 (x+y))]=intsA .i64 (addK d fr (j+1)):=by
    rw [← addK_set hdf hx hy]; simp [intsA,List.map_set]
   clear c1
   refine wk5 ?_
   exact ⟨j+1,by omega,by omega,wkR hC.m [] (by rw [← hset]; rfl)⟩
  ·rw [addK_end hdf hjl]
   have c2:=shIndex_a s (addL d fr) (by rw [addL_len hdf]; omega) (by omega)
   have hlt2 := @idx_lt s (addL d fr)
   generalize idx s (addL d fr)=r at c2 hcell hlt2
   obtain ⟨q,ok⟩:=r
   have lad:=intsA_len .i64 (addL d fr)
   rw [addL_len hdf] at lad
   cases ok
   ·simp only [Bool.false_eq_true,if_false] at hcell
    rw [hcell] at hsn
    clear c1
    refine wk5 ?_
    exact ⟨i+1,by omega,by omega,wkR hC.m [(3,6)] (by rw [← hsn]; rfl)⟩
   ·simp only [if_true] at hcell
    obtain ⟨q0,q1⟩:=hlt2 rfl
    have hql:q.toNat<A.cells.length:=by omega
    have hqc:A.cells[q.toNat]? = some (A.cells.getD q.toNat cellD):=by rw [List.getD_eq_getElem?_getD,List.getElem?_eq_getElem hql]; rfl
    have hqk:=cell_at hqc
    rw [← hcell] at hqk
    clear c1
    refine wk5 ?_
    exact ⟨i+1,by omega,by omega,wkR hC.m [(3,6)] (by rw [← hsn]; rfl)⟩
 ·rw [List.take_of_length_le (by omega)]
  refine wk5 ?_
  exact fin
theorem idle_cut_Take:Idle Tryz.prog 72 := by
 refine ⟨⟨_,Tryz.func72,by rfl,by rfl⟩,fun args w => ?_⟩
 refine callsD_of_wpS Tryz.func72 rfl fun c₀ cs hu => ?_
 rw [Tryz.ntmps72]
 have hsz:5≤(args++Array.replicate (5 - args.size) undef).size:=by simp; omega
 generalize (args++Array.replicate (5 - args.size) undef)=T at hsz ⊢
 have h2:2<T.size:=by omega
 have h3:3<T.size:=by omega
 apply wpS_seq
 apply wpS_region
 simp [wpOpsS,go_sem,recoverD,hu,Exit.thenS,h2]
 refine wpS_cond (t:=false) (by simp [Act.eval,h3]) ?_
 simp only [Bool.false_eq_true,if_false]
 refine wpS_of_wp (wp_skip ?_)
 cases c₀
 simp_all [bodyPostS,results,Tryz.results72]
theorem idle_cut_Drop:Idle Tryz.prog 78 := by
 refine ⟨⟨_,Tryz.func78,by rfl,by rfl⟩,fun args w => ?_⟩
 refine callsD_of_wpS Tryz.func78 rfl fun c₀ cs hu => ?_
 rw [Tryz.ntmps78]
 have hsz:5≤(args++Array.replicate (5 - args.size) undef).size:=by simp; omega
 generalize (args++Array.replicate (5 - args.size) undef)=T at hsz ⊢
 have h2:2<T.size:=by omega
 have h3:3<T.size:=by omega
 apply wpS_seq
 apply wpS_region
 simp [wpOpsS,go_sem,recoverD,hu,Exit.thenS,h2]
 refine wpS_cond (t:=false) (by simp [Act.eval,h3]) ?_
 simp only [Bool.false_eq_true,if_false]
 refine wpS_of_wp (wp_skip ?_)
 cases c₀
 simp_all [bodyPostS,results,Tryz.results78]
theorem idle_pick_Replicate:Idle Tryz.prog 145 := by
 refine ⟨⟨_,Tryz.func145,by rfl,by rfl⟩,fun args w => ?_⟩
 refine callsD_of_wpS Tryz.func145 rfl fun c₀ cs hu => ?_
 rw [Tryz.ntmps145]
 have hsz:5≤(args++Array.replicate (5 - args.size) undef).size:=by simp; omega
 generalize (args++Array.replicate (5 - args.size) undef)=T at hsz ⊢
 have h2:2<T.size:=by omega
 have h3:3<T.size:=by omega
 apply wpS_seq
 apply wpS_region
 simp [wpOpsS,go_sem,recoverD,hu,Exit.thenS,h2]
 refine wpS_cond (t:=false) (by simp [Act.eval,h3]) ?_
 simp only [Bool.false_eq_true,if_false]
 refine wpS_of_wp (wp_skip ?_)
 cases c₀
 simp_all [bodyPostS,results,Tryz.results145]
theorem idle_pick_Expand:Idle Tryz.prog 149 := by
 refine ⟨⟨_,Tryz.func149,by rfl,by rfl⟩,fun args w => ?_⟩
 refine callsD_of_wpS Tryz.func149 rfl fun c₀ cs hu => ?_
 rw [Tryz.ntmps149]
 have hsz:5≤(args++Array.replicate (5 - args.size) undef).size:=by simp; omega
 generalize (args++Array.replicate (5 - args.size) undef)=T at hsz ⊢
 have h2:2<T.size:=by omega
 have h3:3<T.size:=by omega
 apply wpS_seq
 apply wpS_region
 simp [wpOpsS,go_sem,recoverD,hu,Exit.thenS,h2]
 refine wpS_cond (t:=false) (by simp [Act.eval,h3]) ?_
 simp only [Bool.false_eq_true,if_false]
 refine wpS_of_wp (wp_skip ?_)
 cases c₀
 simp_all [bodyPostS,results,Tryz.results149]
theorem idle_find_Index:Idle Tryz.prog 138 := by
 refine ⟨⟨_,Tryz.func138,by rfl,by rfl⟩,fun args w => ?_⟩
 refine callsD_of_wpS Tryz.func138 rfl fun c₀ cs hu => ?_
 rw [Tryz.ntmps138]
 have hsz:5≤(args++Array.replicate (5 - args.size) undef).size:=by simp; omega
 generalize (args++Array.replicate (5 - args.size) undef)=T at hsz ⊢
 have h2:2<T.size:=by omega
 have h3:3<T.size:=by omega
 apply wpS_seq
 apply wpS_region
 simp [wpOpsS,go_sem,recoverD,hu,Exit.thenS,h2]
 refine wpS_cond (t:=false) (by simp [Act.eval,h3]) ?_
 simp only [Bool.false_eq_true,if_false]
 refine wpS_of_wp (wp_skip ?_)
 cases c₀
 simp_all [bodyPostS,results,Tryz.results138]
theorem idle_find_Member:Idle Tryz.prog 141 := by
 refine ⟨⟨_,Tryz.func141,by rfl,by rfl⟩,fun args w => ?_⟩
 refine callsD_of_wpS Tryz.func141 rfl fun c₀ cs hu => ?_
 rw [Tryz.ntmps141]
 have hsz:4≤(args++Array.replicate (4 - args.size) undef).size:=by simp; omega
 generalize (args++Array.replicate (4 - args.size) undef)=T at hsz ⊢
 have h2:1<T.size:=by omega
 have h3:2<T.size:=by omega
 apply wpS_seq
 apply wpS_region
 simp [wpOpsS,go_sem,recoverD,hu,Exit.thenS,h2]
 refine wpS_cond (t:=false) (by simp [Act.eval,h3]) ?_
 simp only [Bool.false_eq_true,if_false]
 refine wpS_of_wp (wp_skip ?_)
 cases c₀
 simp_all [bodyPostS,results,Tryz.results141]
theorem idle_find_Union:Idle Tryz.prog 142 := by
 refine ⟨⟨_,Tryz.func142,by rfl,by rfl⟩,fun args w => ?_⟩
 refine callsD_of_wpS Tryz.func142 rfl fun c₀ cs hu => ?_
 rw [Tryz.ntmps142]
 have hsz:5≤(args++Array.replicate (5 - args.size) undef).size:=by simp; omega
 generalize (args++Array.replicate (5 - args.size) undef)=T at hsz ⊢
 have h2:2<T.size:=by omega
 have h3:3<T.size:=by omega
 apply wpS_seq
 apply wpS_region
 simp [wpOpsS,go_sem,recoverD,hu,Exit.thenS,h2]
 refine wpS_cond (t:=false) (by simp [Act.eval,h3]) ?_
 simp only [Bool.false_eq_true,if_false]
 refine wpS_of_wp (wp_skip ?_)
 cases c₀
 simp_all [bodyPostS,results,Tryz.results142]
theorem idle_find_Those:Idle Tryz.prog 144 := by
 refine ⟨⟨_,Tryz.func144,by rfl,by rfl⟩,fun args w => ?_⟩
 refine callsD_of_wpS Tryz.func144 rfl fun c₀ cs hu => ?_
 rw [Tryz.ntmps144]
 have hsz:5≤(args++Array.replicate (5 - args.size) undef).size:=by simp; omega
 generalize (args++Array.replicate (5 - args.size) undef)=T at hsz ⊢
 have h2:2<T.size:=by omega
 have h3:3<T.size:=by omega
 apply wpS_seq
 apply wpS_region
 simp [wpOpsS,go_sem,recoverD,hu,Exit.thenS,h2]
 refine wpS_cond (t:=false) (by simp [Act.eval,h3]) ?_
 simp only [Bool.false_eq_true,if_false]
 refine wpS_of_wp (wp_skip ?_)
 cases c₀
 simp_all [bodyPostS,results,Tryz.results144]
end Go.Proofs.YtnnipocjapblkaaGreat
