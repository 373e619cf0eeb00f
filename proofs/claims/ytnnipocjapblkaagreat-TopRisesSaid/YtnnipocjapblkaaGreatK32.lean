/- Cells moved by a closure: what the program's functions answer. -/
import Derived.Test.YtnnipocjapblkaaGreatK20
import Derived.Test.YtnnipocjapblkaaGreatK03
import Derived.Test.YtnnipocjapblkaaGreatK07
import Derived.Test.YtnnipocjapblkaaGreatK21
import Derived.Test.YtnnipocjapblkaaGreatK04
import Derived.Test.YtnnipocjapblkaaGreatK25
set_option maxHeartbeats 4000000
namespace Go.Proofs.YtnnipocjapblkaaGreat
set_option linter.unusedVariables false
open Go.RowKit
section
variable {P:Program} {tt:List (Nat × AV)} {hh:Hp} {nn dd:Nat} {g:Option (Nat × Bool)} {l:List AInst} {acc:List SD} {K:List SD→St→Prop}
end
def movedL (A:Arr) (s:List Int) (g:List Int→List Int):List Cell:=(List.range A.cells.length).map fun i:Nat=>A.cells.getD (idx A.shape (g (digR s (i:Int)).2)).1.toNat cellD
theorem movedL_len (A:Arr) (s:List Int) (g:List Int→List Int):(movedL A s g).length=A.cells.length:=by simp [movedL]
theorem movedL_at (A:Arr) (s:List Int) (g:List Int→List Int) {i:Nat} (h:i<A.cells.length):(movedL A s g)[i]? = some (A.cells.getD (idx A.shape (g (digR s (i:Int)).2)).1.toNat cellD):=by
 unfold movedL; rw [List.getElem?_map,List.getElem?_range h]; rfl
theorem moved0_a (A:Arr) (hA:okA A) (s:List Int) (f:FuncId) (g:List Int→List Int) (h1:(cnt s).2=0) (h2:(cnt s).1=A.cells.length) (hcl:A.cells.length≤2048)
 (hf:∀ i:Nat,i<A.cells.length→AMut Tryz.prog f [.own 0] [(0,some ⟨true,false,3,1,intsA .i64 (digR s (i:Int)).2⟩)] 1 (.tup []) [(0,some ⟨true,false,3,1,intsA .i64 (g (digR s (i:Int)).2)⟩)] 1)
 (hg:∀ i:Nat,i<A.cells.length→∃ k:Nat,k<A.cells.length∧idx A.shape (g (digR s (i:Int)).2)=((k:Int),true)∧(g (digR s (i:Int)).2).length≤6) :
 ACalls Tryz.prog 67 [.agg (arrV A),.sl 1 (intsA .i64 s),.fn f [] []] (.agg (arrV (.mk A.s s (movedL A s g)))):=by
 have hB:maxB=1000000000:=rfl
 have lcs:=cells_len A
 have l6:=cnt_len h1
 have ls:=intsA_len .i64 s
 obtain ⟨a1,a2,a3,a4⟩:=hA.parts
 have c0:=cloneInt_a (intsA .i64 s) (by omega)
 have hml:=movedL_len A s g
 have hat:=fun i (h:i<A.cells.length)=>movedL_at A s g h
 generalize movedL A s g=X at hml hat ⊢
 refine acalls_of code_turn_moved (by simp [fn_turn_moved]) fun C hC => ?_
 refine walk2 ?_
 refine aw_loopB [1,2,3,6,19] [0,1] (fun i:Nat=>[(7,.own 2),(20,.lit (.int .i64 i))]) (fun i=>[(2,some ⟨true,false,54,7,(X.take i).map cellR⟩)]) 3
  (fun i=>i≤A.cells.length) (fun i=>A.cells.length - i) 0 (Nat.zero_le _) ?_
 rintro i hi
 dsimp only [List.cons_append,List.nil_append]
 by_cases hil:i<A.cells.length
 ·obtain ⟨k,hk,hidx,hgl⟩:=hg i hil
  have c1:=shAt_m s i h1 (by omega) (by omega)
  have c2:=hf i hil
  have c3:=shIndex_a A.shape (g (digR s (i:Int)).2) (by omega) a2
  have hx:=hat i hil
  rw [hidx] at hx c3
  simp only [Int.toNat_natCast] at hx c3
  obtain ⟨c,hc⟩:∃ c,A.cells[k]? = some c:=⟨_,List.getElem?_eq_getElem hk⟩
  rw [List.getD_eq_getElem?_getD,hc,Option.getD_some] at hx
  have hck:(A.cells.map cellR)[((k:Nat):Int).toNat]? = some (cellV c):=cell_at hc
  have hms:(X.take i).map cellR++[cellV c]=(X.take (i+1)).map cellR:=by rw [takeA_snoc hx]; simp [cellR_eq]
  have hlm:((X.take i).map cellR).length=i:=by simp; omega
  generalize g (digR s (i:Int)).2=d' at c2 c3
  generalize (digR s (i:Int)).2=d at c1 c2
  clear hat hf hg hx hidx
  refine walk2 ?_
  refine aw_reg (rrun2 ?_)
  refine r_callN [] c1 ?_
  refine rrun2 ?_
  refine rg_nil ⟨rfl,?_⟩
  refine walk2 ?_
  refine aw_reg (rrun2 ?_)
  refine r_callM [(3,0)] c2 ?_
  refine rrun2 ?_
  refine rg_nil ⟨rfl,?_⟩
  refine walk2 ?_
  exact ⟨i+1,by omega,by omega,wkR hC.m [(2,5)] (by rw [← hms]; rfl)⟩
 ·rw [show X.take i=X from List.take_of_length_le (by omega)]
  refine walk2 ?_
  exact fin
theorem moved1_a (A:Arr) (hA:okA A) (s:List Int) (f:FuncId) (v1:AV) (g:List Int→List Int) (h1:(cnt s).2=0) (h2:(cnt s).1=A.cells.length) (hcl:A.cells.length≤2048)
 (hf:∀ i:Nat,i<A.cells.length→AMut Tryz.prog f [.own 0,.ep 1 [[v1]] 0 0] [(0,some ⟨true,false,3,1,intsA .i64 (digR s (i:Int)).2⟩)] 1 (.tup []) [(0,some ⟨true,false,3,1,intsA .i64 (g (digR s (i:Int)).2)⟩)] 1)
 (hg:∀ i:Nat,i<A.cells.length→∃ k:Nat,k<A.cells.length∧idx A.shape (g (digR s (i:Int)).2)=((k:Int),true)∧(g (digR s (i:Int)).2).length≤6) :
 ACalls Tryz.prog 67 [.agg (arrV A),.sl 1 (intsA .i64 s),.fn f [] [.ep 1 [[v1]] 0 0]] (.agg (arrV (.mk A.s s (movedL A s g)))):=by
 have hB:maxB=1000000000:=rfl
 have lcs:=cells_len A
 have l6:=cnt_len h1
 have ls:=intsA_len .i64 s
 obtain ⟨a1,a2,a3,a4⟩:=hA.parts
 have c0:=cloneInt_a (intsA .i64 s) (by omega)
 have hml:=movedL_len A s g
 have hat:=fun i (h:i<A.cells.length)=>movedL_at A s g h
 generalize movedL A s g=X at hml hat ⊢
 refine acalls_of code_turn_moved (by simp [fn_turn_moved]) fun C hC => ?_
 refine walk2 ?_
 refine aw_loopB [1,2,3,6,19] [0,1] (fun i:Nat=>[(7,.own 2),(20,.lit (.int .i64 i))]) (fun i=>[(2,some ⟨true,false,54,7,(X.take i).map cellR⟩)]) 3
  (fun i=>i≤A.cells.length) (fun i=>A.cells.length - i) 0 (Nat.zero_le _) ?_
 rintro i hi
 dsimp only [List.cons_append,List.nil_append]
 by_cases hil:i<A.cells.length
 ·obtain ⟨k,hk,hidx,hgl⟩:=hg i hil
  have c1:=shAt_m s i h1 (by omega) (by omega)
  have c2:=hf i hil
  have c3:=shIndex_a A.shape (g (digR s (i:Int)).2) (by omega) a2
  have hx:=hat i hil
  rw [hidx] at hx c3
  simp only [Int.toNat_natCast] at hx c3
  obtain ⟨c,hc⟩:∃ c,A.cells[k]? = some c:=⟨_,List.getElem?_eq_getElem hk⟩
  rw [List.getD_eq_getElem?_getD,hc,Option.getD_some] at hx
  have hck:(A.cells.map cellR)[((k:Nat):Int).toNat]? = some (cellV c):=cell_at hc
  have hms:(X.take i).map cellR++[cellV c]=(X.take (i+1)).map cellR:=by rw [takeA_snoc hx]; simp [cellR_eq]
  have hlm:((X.take i).map cellR).length=i:=by simp; omega
  generalize g (digR s (i:Int)).2=d' at c2 c3
  generalize (digR s (i:Int)).2=d at c1 c2
  clear hat hf hg hx hidx
  refine walk2 ?_
  refine aw_reg (rrun2 ?_)
  refine r_callN [] c1 ?_
  refine rrun2 ?_
  refine rg_nil ⟨rfl,?_⟩
  refine walk2 ?_
  refine aw_reg (rrun2 ?_)
  refine r_callM [(3,0)] c2 ?_
  refine rrun2 ?_
  refine rg_nil ⟨rfl,?_⟩
  refine walk2 ?_
  exact ⟨i+1,by omega,by omega,wkR hC.m [(2,5)] (by rw [← hms]; rfl)⟩
 ·rw [show X.take i=X from List.take_of_length_le (by omega)]
  refine walk2 ?_
  exact fin
theorem moved3_a (A:Arr) (hA:okA A) (s:List Int) (f:FuncId) (v1 v2 v3:AV) (g:List Int→List Int) (h1:(cnt s).2=0) (h2:(cnt s).1=A.cells.length) (hcl:A.cells.length≤2048)
 (hf:∀ i:Nat,i<A.cells.length→AMut Tryz.prog f [.own 0,.ep 1 [[v1]] 0 0,.ep 1 [[v2]] 0 0,.ep 1 [[v3]] 0 0] [(0,some ⟨true,false,3,1,intsA .i64 (digR s (i:Int)).2⟩)] 1 (.tup []) [(0,some ⟨true,false,3,1,intsA .i64 (g (digR s (i:Int)).2)⟩)] 1)
 (hg:∀ i:Nat,i<A.cells.length→∃ k:Nat,k<A.cells.length∧idx A.shape (g (digR s (i:Int)).2)=((k:Int),true)∧(g (digR s (i:Int)).2).length≤6) :
 ACalls Tryz.prog 67 [.agg (arrV A),.sl 1 (intsA .i64 s),.fn f [] [.ep 1 [[v1]] 0 0,.ep 1 [[v2]] 0 0,.ep 1 [[v3]] 0 0]] (.agg (arrV (.mk A.s s (movedL A s g)))):=by
 have hB:maxB=1000000000:=rfl
 have lcs:=cells_len A
 have l6:=cnt_len h1
 have ls:=intsA_len .i64 s
 obtain ⟨a1,a2,a3,a4⟩:=hA.parts
 have c0:=cloneInt_a (intsA .i64 s) (by omega)
 have hml:=movedL_len A s g
 have hat:=fun i (h:i<A.cells.length)=>movedL_at A s g h
 generalize movedL A s g=X at hml hat ⊢
 refine acalls_of code_turn_moved (by simp [fn_turn_moved]) fun C hC => ?_
 refine walk2 ?_
 refine aw_loopB [1,2,3,6,19] [0,1] (fun i:Nat=>[(7,.own 2),(20,.lit (.int .i64 i))]) (fun i=>[(2,some ⟨true,false,54,7,(X.take i).map cellR⟩)]) 3
  (fun i=>i≤A.cells.length) (fun i=>A.cells.length - i) 0 (Nat.zero_le _) ?_
 rintro i hi
 dsimp only [List.cons_append,List.nil_append]
 by_cases hil:i<A.cells.length
 ·obtain ⟨k,hk,hidx,hgl⟩:=hg i hil
  have c1:=shAt_m s i h1 (by omega) (by omega)
  have c2:=hf i hil
  have c3:=shIndex_a A.shape (g (digR s (i:Int)).2) (by omega) a2
  have hx:=hat i hil
  rw [hidx] at hx c3
  simp only [Int.toNat_natCast] at hx c3
  obtain ⟨c,hc⟩:∃ c,A.cells[k]? = some c:=⟨_,List.getElem?_eq_getElem hk⟩
  rw [List.getD_eq_getElem?_getD,hc,Option.getD_some] at hx
  have hck:(A.cells.map cellR)[((k:Nat):Int).toNat]? = some (cellV c):=cell_at hc
  have hms:(X.take i).map cellR++[cellV c]=(X.take (i+1)).map cellR:=by rw [takeA_snoc hx]; simp [cellR_eq]
  have hlm:((X.take i).map cellR).length=i:=by simp; omega
  generalize g (digR s (i:Int)).2=d' at c2 c3
  generalize (digR s (i:Int)).2=d at c1 c2
  clear hat hf hg hx hidx
  refine walk2 ?_
  refine aw_reg (rrun2 ?_)
  refine r_callN [] c1 ?_
  refine rrun2 ?_
  refine rg_nil ⟨rfl,?_⟩
  refine walk2 ?_
  refine aw_reg (rrun2 ?_)
  refine r_callM [(3,0)] c2 ?_
  refine rrun2 ?_
  refine rg_nil ⟨rfl,?_⟩
  refine walk2 ?_
  exact ⟨i+1,by omega,by omega,wkR hC.m [(2,5)] (by rw [← hms]; rfl)⟩
 ·rw [show X.take i=X from List.take_of_length_le (by omega)]
  refine walk2 ?_
  exact fin
def permL (cs:List Cell) (p:Nat→Nat):List Cell:=(List.range cs.length).map fun i=>cs.getD (p i) cellD
theorem permL_congr {cs:List Cell} {p q:Nat→Nat} (h:∀ i,i<cs.length→p i=q i):permL cs p=permL cs q:=by
 unfold permL
 apply List.map_congr_left
 intro i hi
 rw [h i (List.mem_range.1 hi)]
def jOf (L B i:Nat):Nat:=i / B % L
def rotI (L B k i:Nat):Nat:=(i / B / L * L+k) * B+i % B
section
variable {A L B:Nat}
theorem rot_self (i:Nat):rotI L B (jOf L B i) i=i:=by
 unfold rotI jOf
 have h1:=Nat.div_add_mod (i / B) L
 have h2:=Nat.div_add_mod i B
 rw [Nat.mul_comm (i / B / L) L,h1,Nat.mul_comm]; exact h2
theorem rot_lt (hB:0<B) {k i:Nat} (hk:k<L) (hi:i<A * (L * B)):rotI L B k i<A * (L * B):=by
 have hq:i / B / L<A:=by
  rw [Nat.div_div_eq_div_mul]
  exact Nat.div_lt_of_lt_mul (by rw [Nat.mul_comm B L,Nat.mul_comm]; exact hi)
 unfold rotI
 have h1:(i / B / L+1) * (L * B)≤A * (L * B):=Nat.mul_le_mul_right _ hq
 have h2:(k+1) * B≤L * B:=Nat.mul_le_mul_right _ hk
 have h3:=Nat.mod_lt i hB
 rw [Nat.add_mul,Nat.one_mul] at h1 h2
 rw [Nat.add_mul,Nat.mul_assoc]
 omega
theorem jOf_lt (hL:0<L) (i:Nat):jOf L B i<L:=Nat.mod_lt _ hL
end
theorem idx_digR {s:List Int} (h:(cnt s).2=0) (hp:∀ z ∈ s,0<z) {N:Nat} (hN:(N:Int)<prodL s):idx s (digR s (N:Int)).2=((N:Int),true):=by
 unfold idx
 rw [if_neg (by simp [h,digR_len]),idxC_digR s _ _ hp,Int.zero_mul,Int.zero_add,Int.emod_eq_of_lt (by omega) hN]
 rfl
def setF (x:Nat) (k:Int→Int) (d:List Int):List Int:=d.set x (k (d.getD x 0))
structure Ax (s:List Int) (x L A B:Nat):Prop where
 h:(cnt s).2=0
 z:s[x]? = some (L:Int)
 pos:∀ z ∈ s,0<z
 a:prodL (s.take x)=(A:Int)
 b:prodL (s.drop (x+1))=(B:Int)
 c:(cnt s).1=((A * (L * B):Nat):Int)
theorem ax_of {s:List Int} {x L:Nat} (h:(cnt s).2=0) (hz:s[x]? = some (L:Int)) (h0:0<(cnt s).1):Ax s x L (aheadN s x) (behindN s x):=by
 rcases geo h hz with ⟨g1,g2,g3,g4⟩|⟨_,g2,_⟩
 ·exact ⟨h,hz,g1,g2,g3,g4⟩
 ·omega
theorem Ax.B_pos {s:List Int} {x L A B:Nat} (K:Ax s x L A B):0<B:=by
 have:=prodL_pos (s.drop (x+1)) (fun z hz=>K.pos z (List.mem_of_mem_drop hz))
 have:=K.b; omega
theorem Ax.L_pos {s:List Int} {x L A B:Nat} (K:Ax s x L A B):0<L:=by
 have:=K.pos _ (List.mem_of_getElem? K.z); omega
theorem dig3T {s1 s2:List Int} {L:Int} (hp:∀ z ∈ s2,0<z) (q j r B l:Nat) (hB:prodL s2=B) (hr:r<B) (hL:L=l) (hj:j<l) :
 (digR (s1++L::s2) (((q * l+j) * B+r:Nat):Int)).2=(digR s1 q).2++(j:Int)::(digR s2 r).2:=by
 have e1:(digR s2 (((q * l+j) * B+r:Nat):Int)).1=((q * l+j:Nat):Int):=by
  rw [digR_fst s2 _ hp,hB,← Int.natCast_ediv]
  rw [Nat.add_comm,Nat.add_mul_div_right _ _ (by omega),Nat.div_eq_of_lt hr,Nat.zero_add]
 have e2:(digR s2 (((q * l+j) * B+r:Nat):Int)).2=(digR s2 r).2:=digR_mod s2 _ _ hp (by
  rw [hB,← Int.natCast_emod,← Int.natCast_emod,Nat.add_comm,Nat.add_mul_mod_self_right])
 rw [digR_append]
 have e3:digR (L::s2) (((q * l+j) * B+r:Nat):Int)=((q:Int),(j:Int)::(digR s2 r).2):=by
  show (_,_)=_
  rw [e1,e2,hL]
  have h1:((q * l+j:Nat):Int) / (l:Int)=q:=by
   rw [← Int.natCast_ediv,Nat.add_comm,Nat.add_mul_div_right _ _ (by omega),Nat.div_eq_of_lt hj,Nat.zero_add]
  have h2:((q * l+j:Nat):Int) % (l:Int)=j:=by
   rw [← Int.natCast_emod,Nat.add_comm,Nat.add_mul_mod_self_right,Nat.mod_eq_of_lt hj]
  rw [h1,h2]
 rw [e3]
theorem Ax.dig {s:List Int} {x L A B:Nat} (K:Ax s x L A B) (i:Nat):(digR s (i:Int)).2[x]? = some ((jOf L B i:Nat):Int)∧∀ k:Nat,k<L→(digR s (i:Int)).2.set x (k:Int)=(digR s ((rotI L B k i:Nat):Int)).2:=by
 have hB:=K.B_pos
 have hL:=K.L_pos
 have hs:=split_at K.z
 have hp2:∀ z ∈ s.drop (x+1),0<z:=fun z hz=>K.pos z (List.mem_of_mem_drop hz)
 have hx:=(List.getElem?_eq_some_iff.1 K.z).1
 have hl:(digR (s.take x) (i / B / L:Nat)).2.length=x:=by rw [digR_len]; simp; omega
 have key:∀ k:Nat,k<L→(digR s ((rotI L B k i:Nat):Int)).2=(digR (s.take x) ((i / B / L:Nat):Int)).2++(k:Int)::(digR (s.drop (x+1)) ((i % B:Nat):Int)).2:=fun k hk=>by
  conv=>lhs; rw [hs]
  exact dig3T hp2 (i / B / L) k (i % B) B L K.b (Nat.mod_lt i hB) rfl hk
 have k0:=key (jOf L B i) (jOf_lt hL i)
 rw [rot_self] at k0
 refine ⟨?_,fun k hk => ?_⟩
 ·rw [k0,List.getElem?_append_right (by omega),hl,Nat.sub_self]; rfl
 ·rw [k0,key k hk,List.set_append,if_neg (by omega),hl,Nat.sub_self,List.set_cons_zero]
theorem Ax.getD {s:List Int} {x L A B:Nat} (K:Ax s x L A B) (i:Nat):(digR s (i:Int)).2.getD x 0=((jOf L B i:Nat):Int):=by
 rw [List.getD_eq_getElem?_getD,(K.dig i).1]; rfl
theorem rot2_m (d:List Int) (x:Nat) (j b n:Int) (hj:d[x]? = some j) (h0:0≤j) (hb:0≤b) (hj1:j≤1000000) (hb1:b≤1000000) (hn:0<n) (hl:d.length≤1000) :
 AMut Tryz.prog 68 [.own 0,.ep 1 [[.lit (.int .i64 (x:Nat))]] 0 0,.ep 1 [[.lit (.int .i64 b)]] 0 0,.ep 1 [[.lit (.int .i64 n)]] 0 0] [(0,some ⟨true,false,3,1,intsA .i64 d⟩)] 1 (.tup []) [(0,some ⟨true,false,3,1,intsA .i64 (d.set x ((j+b) % n))⟩)] 1:=by
 have hx:=(List.getElem?_eq_some_iff.1 hj).1
 have ls:=intsA_len .i64 d
 have hjk:(intsA .i64 d)[((x:Nat):Int).toNat]? = some [.lit (.int .i64 j)]:=int_at hj
 have hset:=intsA_set .i64 d x ((j+b) % n)
 refine amut_of code_turn_Rotate_2 (by simp [fn_turn_Rotate_2]) fun C hC => ?_
 refine walk2 ?_
 rw [← hset]
 exact fin_m []
def axT (A:Arr) (first:Bool):Nat:=if first then 0 else A.shape.length - 1
theorem along0_a (A:Arr) (first:Bool) (h:A.shape=[]):ACalls Tryz.prog 66 [.agg (arrV A),.lit (.bool first)] (.tup [.lit (.int .i64 0),.lit (.bool false)]):=by
 refine acalls_of code_turn_along (by simp [fn_turn_along]) fun C hC => ?_
 unfold arrV
 rw [h]
 refine walk2 ?_
 exact fin
theorem along1_a (A:Arr) (first:Bool) (h:A.shape.length≠0) (hl:A.shape.length≤6):ACalls Tryz.prog 66 [.agg (arrV A),.lit (.bool first)] (.tup [.lit (.int .i64 (axT A first:Nat)),.lit (.bool true)]):=by
 have ls:=intsA_len .i64 A.shape
 refine acalls_of code_turn_along (by simp [fn_turn_along]) fun C hC => ?_
 cases first
 ·rw [show ((axT A false:Nat):Int)=(A.shape.length:Int) - 1 from by simp [axT]; omega]
  refine walk2 ?_
  exact fin
 ·rw [show ((axT A true:Nat):Int)=0 from rfl]
  refine walk2 ?_
  exact fin
def lenT (A:Arr) (first:Bool):Nat:=(A.shape.getD (axT A first) 0).toNat
def behT (A:Arr) (first:Bool):Nat:=behindN A.shape (axT A first)
def rotC (A:Arr) (first:Bool) (z:Int):List Cell:=if A.shape=[] then A.cells else permL A.cells (fun i=>rotI (lenT A first) (behT A first) ((jOf (lenT A first) (behT A first) i+(z % (lenT A first:Nat)).toNat) % lenT A first) i)
theorem axT_z {A:Arr} (hA:okJ A) (first:Bool) (h:A.shape≠[]):A.shape[axT A first]? = some ((lenT A first:Nat):Int)∧lenT A first≤2048:=by
 have h0:A.shape.length≠0:=fun e=>h (List.eq_nil_of_length_eq_zero e)
 have hx:axT A first<A.shape.length:=by unfold axT; split<;>omega
 obtain ⟨z,hz⟩:∃ z,A.shape[axT A first]? = some z:=⟨_,List.getElem?_eq_getElem hx⟩
 have hs:=hA.small z (List.mem_of_getElem? hz)
 have:lenT A first=z.toNat:=by unfold lenT; rw [List.getD_eq_getElem?_getD,hz]; rfl
 rw [hz,this]
 exact ⟨by congr 1; omega,by omega⟩
theorem ax_at {A:Arr} (hA:okJ A) (first:Bool) (h:A.shape≠[]) (hc:0<A.cells.length):Ax A.shape (axT A first) (lenT A first) (aheadN A.shape (axT A first)) (behT A first) :=
 ax_of hA.e (axT_z hA first h).1 (by rw [hA.c]; omega)
theorem movedL_eq {A:Arr} {s:List Int} {g:List Int→List Int} {p:Nat→Nat} (h:∀ i,i<A.cells.length→idx A.shape (g (digR s (i:Int)).2)=(((p i:Nat):Int),true)):movedL A s g=permL A.cells p:=by
 show permL A.cells (fun i=>(idx A.shape (g (digR s (i:Int)).2)).1.toNat)=_
 exact permL_congr fun i hi=>by rw [h i hi]; simp
theorem Ax.idx {A:Arr} (hA:okJ A) {x L Ad B:Nat} (K:Ax A.shape x L Ad B) {i k:Nat} (hi:i<A.cells.length) (hk:k<L):idx A.shape ((digR A.shape (i:Int)).2.set x (k:Int))=(((rotI L B k i:Nat):Int),true)∧rotI L B k i<A.cells.length:=by
 have hc:=hA.c
 have hp:=hA.prod
 rw [K.c] at hc
 have hlt:rotI L B k i<Ad * (L * B):=rot_lt K.B_pos hk (by omega)
 rw [(K.dig i).2 k hk]
 exact ⟨idx_digR K.h K.pos (by omega),by omega⟩
theorem aw_keepN {P:Program} {C:Ctx} {Q:Exit→St→Prop} {st:St} {c:ACode} (L H:List Nat) (n:Nat) {kt:List (Nat × AV)} {kh:Hp} (h:AW P C c Q ⟨kt,kh,n⟩)
 (et:(L.map fun k=>(k,getT st.t k))=kt:=by rfl) (eh:(H.map fun k=>(k,hl st.h k))=kh:=by rfl) (hn:Nat.ble st.nx n=true:=by rfl):AW P C c Q st:=by
 subst et eh
 exact aw_weak (weak_keep L H n (Nat.ble_eq ▸ hn)) h
def raiA (A:Arr) (l:Nat):Arr:=.mk (A.s ||| l) A.shape A.cells
theorem raise_a (A:Arr) (l:Nat) (hs:A.s<18446744073709551616) (hl:l<18446744073709551616):ACalls Tryz.prog 65 [.agg (arrV A),labV l] (.agg (arrV (raiA A l))):=by
 have c1:=join_a A.s l hs hl
 refine acalls_of code_array_Raise (by simp [fn_array_Raise]) fun C hC => ?_
 refine walk2 ?_
 exact fin
theorem okJ_raise {A:Arr} (hA:okJ A) {l:Nat} (hl:l<18446744073709551616):okJ (raiA A l):=by
 refine ⟨?_,hA.e,hA.c⟩
 obtain ⟨a1,a2,a3,a4⟩:=hA.ok.parts
 simp only [raiA,okA]
 exact ⟨or_lt _ _ a1 hl,a2,a3,a4⟩
theorem tmod_pos (z:Int) (L:Nat) (h:0<L) : -(L:Int)<z.tmod L∧z.tmod L<L∧(z.tmod L+L) % L=z % L:=by
 have h1:=Int.tmod_lt_of_pos z (show (0:Int)<L by omega)
 have h2 : -(L:Int)<z.tmod L:=by
  have:=Int.tmod_lt_of_pos (-z) (show (0:Int)<L by omega)
  rw [Int.neg_tmod] at this; omega
 refine ⟨h2,h1,?_⟩
 have h3:=Int.mul_tdiv_add_tmod z L
 rw [Int.add_emod_right]
 conv=>rhs; rw [← h3]
 rw [Int.mul_add_emod_self_left]
def rotP (K A:Arr) (first:Bool):Arr × Int:=if (intsR K).2≠0 then (.mk 0 [] [],(intsR K).2) else match (intsR K).1 with|[z]=>(.mk (A.s ||| totA K) A.shape (rotC A first z),0)|_=>(.mk 0 [] [],4)
theorem listK1 (l:List Int):(∃ a,l=[a])∨l.length≠1:=by
 match l with
 | []=>right; simp
 | [a]=>left; exact ⟨a,rfl⟩
 | _::_::_=>right; simp
theorem rotP_len {K A:Arr} {first:Bool} (h0:(intsR K).2=0) (h:(intsR K).1.length≠1):rotP K A first=(.mk 0 [] [],4):=by
 unfold rotP
 rw [if_neg (by simp [h0])]
 split
 ·rename_i z e; rw [e] at h; simp at h
 ·rfl
theorem rotP_ok {K A:Arr} {first:Bool} {z:Int} (h0:(intsR K).2=0) (h:(intsR K).1=[z]):rotP K A first=(.mk (A.s ||| totA K) A.shape (rotC A first z),0):=by
 unfold rotP
 rw [if_neg (by simp [h0]),h]
theorem rotate_a (K A:Arr) (first:Bool) (hK:arrOK K) (kK:okJ K) (hA:okJ A):ACalls Tryz.prog 22 [.agg (arrV K),.agg (arrV A),.lit (.bool first)] (.tup [.agg (arrV (rotP K A first).1),.lit (.int .i64 (rotP K A first).2)]):=by
 have hl:=hA.len
 have c0:=arrInts_a K hK kK.ok
 have lK:=intsA_len .i64 (intsR K).1
 by_cases h0:(intsR K).2=0
 ·rcases listK1 (intsR K).1 with ⟨z,hz⟩|hne
  ·rw [rotP_ok h0 hz]
   have hzk:(intsA .i64 (intsR K).1)[(0:Int).toNat]? = some [.lit (.int .i64 z)]:=by rw [hz]; rfl
   have hzl:(((intsR K).1.length:Nat):Int)=1:=by rw [hz]; rfl
   rw [h0] at c0
   have htl:=totA_lt K kK.ok
   have c1:=total_a K kK.ok
   have c2:=raise_a A (totA K) hA.ok.parts.1 htl
   have kR:=okJ_raise hA htl
   generalize totA K=T at *
   generalize (intsR K).1=l at *
   by_cases h:A.shape=[]
   ·have c3:=along0_a A first h
    have e:(Arr.mk (A.s ||| T) A.shape (rotC A first z))=raiA A T:=by unfold rotC raiA; rw [if_pos h]
    rw [e]
    generalize raiA A T=R at c2 ⊢
    clear kR
    refine acalls_defer code_turn_Rotate (by simp [fn_turn_Rotate]) idle_turn_Rotate fun C hC => ?_
    refine walk2 ?_
    intro ds
    refine walk2 ?_
    exact fin
   ·have hs0:A.shape.length≠0:=fun e=>h (List.eq_nil_of_length_eq_zero e)
    have c3:=along1_a A first hs0 hl
    obtain ⟨hx,hx1⟩:=axT_z hA first h
    have hxk:(intsA .i64 A.shape)[((axT A first:Nat):Int).toNat]? = some [.lit (.int .i64 ((lenT A first:Nat):Int))]:=int_at hx
    have hxl:=(List.getElem?_eq_some_iff.1 hx).1
    have ls:=intsA_len .i64 A.shape
    by_cases hL:lenT A first=0
    ·have hnil:A.cells=[]:=by
      have hp:=hA.prod
      rw [split_at hx,prodL_append,prodL_cons,hL] at hp
      simp at hp
      exact List.eq_nil_of_length_eq_zero (by omega)
     have e:(Arr.mk (A.s ||| T) A.shape (rotC A first z))=raiA A T:=by unfold rotC raiA; rw [if_neg h,hnil]; rfl
     rw [e]
     have hL':((lenT A first:Nat):Int)=0:=by omega
     generalize raiA A T=R at c2 ⊢
     generalize axT A first=x at *
     generalize lenT A first=L at *
     clear kR e hnil
     refine acalls_defer code_turn_Rotate (by simp [fn_turn_Rotate]) idle_turn_Rotate fun C hC => ?_
     refine walk2 ?_
     intro ds
     refine walk2 ?_
     exact fin
    ·have hL0:0<lenT A first:=by omega
     obtain ⟨t1,t2,t3⟩:=tmod_pos z (lenT A first) hL0
     have hb0:0≤(z.tmod (lenT A first)+lenT A first) % lenT A first:=Int.emod_nonneg _ (by omega)
     have hb1:(z.tmod (lenT A first)+lenT A first) % lenT A first<lenT A first:=Int.emod_lt_of_pos _ (by omega)
     have hk:∀ i,i<A.cells.length→(setF (axT A first) (fun j=>(j+(z.tmod (lenT A first)+lenT A first) % lenT A first) % (lenT A first:Nat)) (digR A.shape (i:Int)).2)=(digR A.shape (i:Int)).2.set (axT A first) (((jOf (lenT A first) (behT A first) i+(z % (lenT A first:Nat)).toNat) % lenT A first:Nat):Int)∧(jOf (lenT A first) (behT A first) i+(z % (lenT A first:Nat)).toNat) % lenT A first<lenT A first:=fun i hi=>by
      have K:=ax_at hA first h (by omega)
      unfold setF
      rw [K.getD i]
      refine ⟨?_,Nat.mod_lt _ hL0⟩
      congr 1
      dsimp only
      rw [t3] at hb0 hb1 ⊢
      rw [Int.natCast_emod,Int.natCast_add,Int.toNat_of_nonneg hb0]
     have c4:=moved3_a (raiA A T) kR.ok A.shape 68 (.lit (.int .i64 ((axT A first:Nat):Int))) (.lit (.int .i64 ((z.tmod (lenT A first)+lenT A first) % lenT A first))) (.lit (.int .i64 ((lenT A first:Nat):Int)))
      (setF (axT A first) (fun j=>(j+(z.tmod (lenT A first)+lenT A first) % lenT A first) % (lenT A first:Nat))) hA.e hA.c hA.cells
      (fun i hi=>by
       have hi:i<A.cells.length:=hi
       have K:=ax_at hA first h (by omega)
       have hj:=jOf_lt (B:=behT A first) K.L_pos i
       have hd:=(K.dig i).1
       have:=rot2_m (digR A.shape (i:Int)).2 (axT A first) _ ((z.tmod (lenT A first)+lenT A first) % lenT A first) ((lenT A first:Nat):Int) hd (by omega) hb0 (by omega) (by omega) (by omega) (by rw [digR_len]; omega)
       unfold setF
       rw [K.getD i]
       exact this)
      (fun i hi=>by
       have hi:i<A.cells.length:=hi
       have K:=ax_at hA first h (by omega)
       obtain ⟨k1,k2⟩:=hk i hi
       obtain ⟨k3,k4⟩:=K.idx hA hi k2
       rw [k1]
       exact ⟨_,k4,k3,by rw [List.length_set,digR_len]; omega⟩)
     rw [movedL_eq (A:=raiA A T) (p:=fun i=>rotI (lenT A first) (behT A first) ((jOf (lenT A first) (behT A first) i+(z % (lenT A first:Nat)).toNat) % lenT A first) i) (fun i hi=>by
         have hi:i<A.cells.length:=hi
         have K:=ax_at hA first h (by omega)
         obtain ⟨k1,k2⟩:=hk i hi
         rw [k1]
         exact (K.idx hA hi k2).1)] at c4
     have e:(Arr.mk (A.s ||| T) A.shape (rotC A first z))=.mk (raiA A T).s A.shape (permL (raiA A T).cells (fun i=>rotI (lenT A first) (behT A first) ((jOf (lenT A first) (behT A first) i+(z % (lenT A first:Nat)).toNat) % lenT A first) i)):=by unfold rotC raiA; rw [if_neg h]; rfl
     rw [e]
     generalize (Arr.mk (raiA A T).s A.shape (permL (raiA A T).cells (fun i=>rotI (lenT A first) (behT A first) ((jOf (lenT A first) (behT A first) i+(z % (lenT A first:Nat)).toNat) % lenT A first) i)))=Z at c4 ⊢
     generalize raiA A T=R at c2 c4
     generalize axT A first=x at *
     generalize lenT A first=L at *
     have hLne:((L:Nat):Int)≠0:=by omega
     clear hk kR e
     refine acalls_defer code_turn_Rotate (by simp [fn_turn_Rotate]) idle_turn_Rotate fun C hC => ?_
     refine walk2 ?_
     intro ds
     refine walk2 ?_
     refine aw_keepN [4,6,7,9,10,12,13] [1,2,3,4,5,6,7] 8 (kt:=[(4,.optr 1 0 0),(6,.optr 2 0 0),(7,.optr 3 0 0),(9,.optr 4 0 0),(10,.optr 5 0 0),(12,.optr 6 0 0),(13,.optr 7 0 0)])
      (kh:=[(1,some ⟨false,false,26,3,[arrV A]⟩),(2,some ⟨false,false,26,3,[[.lit (.int .u64 0),.lit (.slice none 0 0),.lit (.slice none 0 0)]]⟩),(3,some ⟨false,false,29,1,[[.lit (.int .i64 0)]]⟩),(4,some ⟨false,false,26,3,[arrV R]⟩),
       (5,some ⟨false,false,3,1,[[.lit (.int .i64 (x:Nat))]]⟩),(6,some ⟨false,false,3,1,[[.lit (.int .i64 (L:Nat))]]⟩),(7,some ⟨false,false,3,1,[[.lit (.int .i64 ((z.tmod (L:Int)+L) % L))]]⟩)]) ?_
     refine aw_freeze 5 rfl ?_
     refine aw_freeze 6 rfl ?_
     refine aw_freeze 7 rfl ?_
     refine walk2 ?_
     exact fin
  ·rw [rotP_len h0 hne]
   rw [h0] at c0
   have hzl:¬ (((intsR K).1.length:Nat):Int)=1:=by omega
   have hkl:(intsR K).1.length≤1000000000:=by
    have:=kK.cells
    unfold intsR
    split
    ·simp
    ·split
     ·rename_i l hl; rw [intsF_len hl]; simp; omega
     ·simp
   generalize (intsR K).1=l at *
   refine acalls_defer code_turn_Rotate (by simp [fn_turn_Rotate]) idle_turn_Rotate fun C hC => ?_
   refine walk2 ?_
   intro ds
   refine walk2 ?_
   exact fin
 ·unfold rotP
  rw [if_pos h0]
  generalize (intsR K).1=l at *
  generalize (intsR K).2=e at *
  refine acalls_defer code_turn_Rotate (by simp [fn_turn_Rotate]) idle_turn_Rotate fun C hC => ?_
  refine walk2 ?_
  intro ds
  refine walk2 ?_
  exact fin
end Go.Proofs.YtnnipocjapblkaaGreat
