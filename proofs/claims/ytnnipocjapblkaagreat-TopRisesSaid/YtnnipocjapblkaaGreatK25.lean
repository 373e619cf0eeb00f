/- Numbers of an array: array.Ints, the document's Ints. -/
import Derived.Test.YtnnipocjapblkaaGreatK14
import Derived.Test.YtnnipocjapblkaaGreatK03
import Derived.Test.YtnnipocjapblkaaGreatK06
import Derived.Test.YtnnipocjapblkaaGreatK05
import Derived.Test.YtnnipocjapblkaaGreatK04
import Derived.Test.YtnnipocjapblkaaGreatK22
set_option maxRecDepth 10000
set_option maxHeartbeats 2000000
namespace Go.Proofs.YtnnipocjapblkaaGreat
set_option linter.unusedVariables false
open Go.RowKit
def intOf (c:Cell):Option Int:=if c.kind=0 then (if (smallN c.n).2=true then some (smallN c.n).1 else none) else none
def intsF:List Cell→Option (List Int)
 | []=>some []
 | c::cs=>match intOf c,intsF cs with|some z,some l=>some (z::l)|_,_=>none
theorem intsF_at {cs:List Cell} {k:Nat} {c:Cell} (h:cs[k]? = some c):intsF (cs.drop k)=match intOf c,intsF (cs.drop (k+1)) with|some z,some l=>some (z::l)|_,_=>none:=by
 rw [dropA_cons h,intsF]
theorem intsF_len:∀ {cs:List Cell} {l:List Int},intsF cs=some l→l.length=cs.length
 | [],l,h=>by simp only [intsF,Option.some.injEq] at h; subst h; rfl
 | c::cs,l,h=>by
   rw [intsF] at h
   split at h
   ·rename_i z l' h1 h2
    simp only [Option.some.injEq] at h; subst h
    simp [intsF_len h2]
   ·cases h
def intsR (A:Arr):List Int × Int:=if A.shape.length > 1 then ([],5) else match intsF A.cells with|some l=>(l,0)|none=>([],3)
theorem arrInts_a (A:Arr) (hA:arrOK A) (hok:okA A):ACalls Tryz.prog 57 [.agg (arrV A)] (.tup [.sl 1 (intsA .i64 (intsR A).1),.lit (.int .i64 (intsR A).2)]):=by
 have hB:maxB=1000000000:=rfl
 have lsh:=intsA_len .i64 A.shape
 have lcs:=cells_len A
 obtain ⟨a1,a2,a3,a4⟩:=hok.parts
 obtain ⟨b1,b2,b3,b4⟩:=hA.parts
 refine acalls_of code_array_Ints (by simp [fn_array_Ints]) fun C hC => ?_
 unfold intsR
 by_cases h1:A.shape.length > 1
 ·rw [if_pos h1]
  refine walk2 ?_
  exact fin
 ·rw [if_neg h1]
  refine walk2 ?_
  refine aw_loopB [1,18,19] [0] (fun p:Nat × List Int=>[(4,.own 1),(20,.lit (.int .i64 p.1))]) (fun p=>[(1,some ⟨true,false,3,1,intsA .i64 p.2⟩)]) 2
   (fun p=>p.1≤A.cells.length∧p.2.length=p.1∧intsF A.cells=(intsF (A.cells.drop p.1)).map (p.2++·)) (fun p=>A.cells.length - p.1) (0,[]) ⟨Nat.zero_le _,rfl,by cases h:intsF A.cells<;>simp [h]⟩ ?_
  rintro ⟨k,zs⟩ ⟨hk,hz,hE⟩
  dsimp only [List.cons_append,List.nil_append] at hk hz hE ⊢
  generalize intsF A.cells=G at hE ⊢
  by_cases hlt:k<A.cells.length
  ·obtain ⟨c,hc⟩:∃ c,A.cells[k]? = some c:=⟨_,List.getElem?_eq_getElem hlt⟩
   have hcm:=List.mem_of_getElem? hc
   have hco:=okCs_mem.1 a4 c hcm
   have hcp:=(cellsOK_mem.1 b4 c hcm).parts
   have hcv:(A.cells.map cellR)[((k:Nat):Int).toNat]? = some (cellV c):=by rw [Int.toNat_natCast]; exact cell_at hc
   have c1:=ratSmall_a c.n hcp.2.1 hco.parts.2.1
   have hin:=intsF_at hc
   have lz:=intsA_len .i64 zs
   unfold intOf at hin
   by_cases hkind:c.kind=0
   ·rw [if_pos hkind] at hin
    cases hb:(smallN c.n).2<;>rw [hb] at c1 hin
    ·simp only [Bool.false_eq_true,if_false] at hin
     rw [hin] at hE
     simp only [Option.map_none] at hE
     subst hE
     refine walk2 ?_
     exact fin
    ·simp only [if_true] at hin
     generalize (smallN c.n).1=z at c1 hin
     refine walk2 ?_
     refine ⟨(k+1,zs++[z]),by simp only; omega,⟨by simp only; omega,by simp only [List.length_append,List.length_cons,List.length_nil]; omega,?_⟩,wkR hC.m [(1,4)] (by rw [show intsA .i64 (zs++[z])=intsA .i64 zs++[[.lit (.int .i64 z)]] from by simp [intsA]]; rfl)⟩
     rw [hE,hin]
     cases intsF (A.cells.drop (k+1))<;>simp
   ·rw [if_neg hkind] at hin
    simp only at hin
    rw [hin] at hE
    simp only [Option.map_none] at hE
    subst hE
    generalize (smallN c.n).1=z at c1
    generalize (smallN c.n).2=b at c1
    refine walk2 ?_
    exact fin
  ·rw [List.drop_eq_nil_of_le (by omega),intsF] at hE
   simp only [Option.map_some,List.append_nil] at hE
   subst hE
   refine walk2 ?_
   exact fin
mutual
def totA:Arr→Nat
 | .mk s _ cs=>totCs cs s
def totCs:List Cell→Nat→Nat
 | [],n=>n
 | c::cs,n=>totCs cs (totC c n)
def totC:Cell→Nat→Nat
 | .mk l _ _ _ ins,n=>totAs ins (n ||| l)
def totAs:List Arr→Nat→Nat
 | [],n=>n
 | a::xs,n=>totAs xs (n ||| totA a)
end
theorem totA_eq (A:Arr):totA A=totCs A.cells A.s:=by cases A; simp only [totA,Arr.cells,Arr.s]
theorem totC_eq (c:Cell) (n:Nat):totC c n=totAs c.ins (n ||| c.l):=by cases c; simp only [totC,Cell.ins,Cell.l]
theorem totCs_at {cs:List Cell} {k:Nat} {c:Cell} (h:cs[k]? = some c) (n:Nat):totCs (cs.drop k) n=totCs (cs.drop (k+1)) (totAs c.ins (n ||| c.l)):=by
 rw [dropA_cons h,totCs,totC_eq]
theorem totAs_at {xs:List Arr} {k:Nat} {a:Arr} (h:xs[k]? = some a) (n:Nat):totAs (xs.drop k) n=totAs (xs.drop (k+1)) (n ||| totA a):=by
 rw [dropA_cons h,totAs]
mutual
theorem totA_lt:∀ (A:Arr),okA A→totA A<18446744073709551616
 | .mk s sh cs,h=>by simp only [totA]; exact totCs_lt cs s h.2.2.2 h.1
theorem totCs_lt:∀ (cs:List Cell) (n:Nat),okCs cs→n<18446744073709551616→totCs cs n<18446744073709551616
 | [],n,_,h=>by simpa [totCs] using h
 | c::cs,n,h,hn=>by
   simp only [totCs,okCs] at h ⊢
   exact totCs_lt cs _ h.2 (totC_lt c n h.1 hn)
theorem totC_lt:∀ (c:Cell) (n:Nat),okC c→n<18446744073709551616→totC c n<18446744073709551616
 | .mk l _ _ _ ins,n,h,hn=>by
   simp only [totC,okC] at h ⊢
   exact totAs_lt ins _ h.2.2.2.2 (or_lt _ _ hn h.1)
theorem totAs_lt:∀ (xs:List Arr) (n:Nat),okAs xs→n<18446744073709551616→totAs xs n<18446744073709551616
 | [],n,_,h=>by simpa [totAs] using h
 | a::xs,n,h,hn=>by
   simp only [totAs,okAs] at h ⊢
   exact totAs_lt xs _ h.2 (or_lt _ _ hn (totA_lt a h.1))
end
theorem total_a:∀ (A:Arr),okA A→ACalls Tryz.prog 11 [.agg (arrV A)] (labV (totA A))
 | A,hA=>by
   have hB:maxB=1000000000:=rfl
   have lcs:=cells_len A
   obtain ⟨a1,a2,a3,a4⟩:=hA.parts
   refine acalls_of code_array_Total (by simp [fn_array_Total]) fun C hC => ?_
   have e:=totA_eq A
   refine walk2 ?_
   refine aw_loopB [1,11,12] [0] (fun p:Nat × Nat=>[(3,labV p.2),(13,.lit (.int .i64 p.1))]) (fun _=>[]) 1
    (fun p=>p.1≤A.cells.length∧p.2<18446744073709551616∧totA A=totCs (A.cells.drop p.1) p.2) (fun p=>A.cells.length - p.1) (0,A.s) ⟨Nat.zero_le _,a1,e⟩ ?_
   rintro ⟨k,n⟩ ⟨hk,hn,hE⟩
   simp only at hk hn hE
   dsimp only [List.cons_append,List.nil_append]
   by_cases hlt:k<A.cells.length
   ·obtain ⟨c,hc⟩:∃ c,A.cells[k]? = some c:=⟨_,List.getElem?_eq_getElem hlt⟩
    have hck:=cell_at hc
    have hcm:=List.mem_of_getElem? hc
    have hcok:=okCs_mem.1 a4 c hcm
    obtain ⟨b1,b2,b3,b4,b5⟩:=hcok.parts
    have lin:=ins_len c
    rw [totCs_at hc] at hE
    have c1:=join_a n c.l hn b1
    have hn2:=or_lt n c.l hn b1
    have ht:SizeOf.sizeOf c<SizeOf.sizeOf A:=Nat.lt_trans (cell_size hcm) A.size
    refine walk2 ?_
    refine aw_loopB [1,11,12,13,22,23] [0] (fun p:Nat × Nat=>[(3,labV p.2),(24,.lit (.int .i64 p.1))]) (fun _=>[]) 2
     (fun p=>p.1≤c.ins.length∧p.2<18446744073709551616∧totA A=totCs (A.cells.drop (k+1)) (totAs (c.ins.drop p.1) p.2)) (fun p=>c.ins.length - p.1) (0,n ||| c.l) ⟨Nat.zero_le _,hn2,hE⟩ ?_
    rintro ⟨j,m⟩ ⟨hj,hm,hF⟩
    simp only at hj hm hF
    dsimp only [List.cons_append,List.nil_append]
    by_cases hlj:j<c.ins.length
    ·obtain ⟨x,hx⟩:∃ x,c.ins[j]? = some x:=⟨_,List.getElem?_eq_getElem hlj⟩
     have hxk:=arr_at hx
     have hxm:=List.mem_of_getElem? hx
     have hxok:=okAs_mem.1 b5 x hxm
     have ht2:SizeOf.sizeOf x<SizeOf.sizeOf A:=Nat.lt_trans (arr_size hxm) (Nat.lt_trans c.size ht)
     have c4:=total_a x hxok
     have hxl:=totA_lt x hxok
     have c5:=join_a m (totA x) hm hxl
     rw [totAs_at hx] at hF
     clear c1
     refine walk2 ?_
     exact ⟨(j+1,m ||| totA x),by simp only; omega,⟨by simp only; omega,or_lt _ _ hm hxl,hF⟩,wkR hC.m []⟩
    ·rw [show c.ins.drop j=[] from List.drop_eq_nil_of_le (by omega),totAs] at hF
     clear c1
     refine walk2 ?_
     exact ⟨(k+1,m),by simp only; omega,⟨by simp only; omega,hm,hF⟩,wkR hC.m []⟩
   ·rw [List.drop_eq_nil_of_le (by omega),totCs] at hE
    rw [hE]
    refine walk2 ?_
    exact fin
 termination_by A=>SizeOf.sizeOf A
def raiP (A:Arr) (l:Nat):Arr:=.mk (A.s ||| l) A.shape A.cells
theorem raiP_a (A:Arr) (l:Nat) (hs:A.s<18446744073709551616) (hl:l<18446744073709551616):ACalls Tryz.prog 65 [.agg (arrV A),labV l] (.agg (arrV (raiP A l))):=by
 have c1:=join_a A.s l hs hl
 refine acalls_of code_array_Raise (by simp [fn_array_Raise]) fun C hC => ?_
 refine walk2 ?_
 exact fin
def chrC (z:Int):Cell:=.mk 0 1 zN z []
theorem chr_a (z:Int):ACalls Tryz.prog 130 [nA z] (.agg (cellV (chrC z))):=by
 have zn:zN.top=[]∧zN.bot=[]∧zN.neg=false:=⟨rfl,rfl,rfl⟩
 refine acalls_of code_array_Chr (by simp [fn_array_Chr]) fun C hC => ?_
 refine wk5 ?_
 exact fin
def filC (A:Arr):Cell:=match A.cells with|[]=>intC 0|c::_=>if c.kind=1 then .mk c.l 1 zN 32 [] else .mk c.l 0 (ofZ 0) 0 []
theorem filC_nil {A:Arr} (h:A.cells=[]):filC A=intC 0:=by unfold filC; rw [h]
theorem filC_cons {A:Arr} {c:Cell} {cs:List Cell} (h:A.cells=c::cs):filC A=if c.kind=1 then .mk c.l 1 zN 32 [] else .mk c.l 0 (ofZ 0) 0 []:=by unfold filC; rw [h]
theorem fill_a (A:Arr):ACalls Tryz.prog 59 [.agg (arrV A)] (.agg (cellV (filC A))):=by
 have c1:=arrIntG_a 0 (by omega) (by omega)
 have c2:=chr_a 32
 cases h:A.cells with
 | nil =>
   have hl:((A.cells.map cellR).length:Int)=0:=by rw [h]; rfl
   rw [filC_nil h]
   refine acalls_of code_array_Fill (by simp [fn_array_Fill]) fun C hC => ?_
   refine wk5 ?_
   exact fin
 | cons c cs =>
   have hv:(A.cells.map cellR)[(0:Int).toNat]? = some (cellV c):=by rw [h]; exact cell_at rfl
   have hl:0<((A.cells.map cellR).length:Int):=by rw [h,List.length_map,List.length_cons]; omega
   rw [filC_cons h]
   refine acalls_of code_array_Fill (by simp [fn_array_Fill]) fun C hC => ?_
   by_cases hk:c.kind=1
   ·rw [if_pos hk]
    refine wk5 ?_
    exact fin
   ·rw [if_neg hk]
    refine wk5 ?_
    exact fin
def unpC (c:Cell):Arr:=if c.kind=2∧c.ins.length=1 then raiP (c.ins.headD zA) c.l else .mk (0 ||| c.l) [] [c]
theorem unpack_a {d:Nat} (c:Cell) (hc:okTC (okT d) c):ACalls Tryz.prog 79 [.agg (cellV c)] (.agg (arrV (unpC c))):=by
 have hB:maxB=1000000000:=rfl
 obtain ⟨g1,g2,g3⟩:=hc.len
 have hll:=hc.1
 by_cases hk:c.kind=2
 ·rcases hc.2 with ⟨h1,_⟩|⟨h1,_⟩|⟨_,_,_,a,h4,h5⟩
  ·omega
  ·omega
  have c1:=raiP_a a c.l h5.base.1 hll
  rw [unpC,if_pos ⟨hk,by rw [h4]; rfl⟩,h4]
  have hv:(c.ins.map arrR)[(0:Int).toNat]? = some (arrV a):=by rw [h4]; exact arr_at rfl
  have l1:((c.ins.map arrR).length:Int)=1:=by rw [h4]; rfl
  show ACalls _ _ _ (.agg (arrV (raiP a c.l)))
  refine acalls_of code_array_Unpack (by simp [fn_array_Unpack]) fun C hC => ?_
  refine wk5 ?_
  exact fin
 ·rw [unpC,if_neg (fun h=>hk h.1)]
  have c1:=scalar_a c (by omega) (by omega) (by omega)
  have c2:=raiP_a (.mk 0 [] [c]) c.l (show (0:Nat)<18446744073709551616 by decide) hll
  have e:raiP (.mk 0 [] [c]) c.l=.mk (0 ||| c.l) [] [c]:=rfl
  rw [e] at c2
  refine acalls_of code_array_Unpack (by simp [fn_array_Unpack]) fun C hC => ?_
  refine wk5 ?_
  exact fin
theorem match_a (A B:Arr):ACalls Tryz.prog 9 [.agg (arrV A),.agg (arrV B)] (.lit (.bool (eqvA false A B))):=by
 have c1:=equal_a false A B
 refine acalls_of code_array_Match (by simp [fn_array_Match]) fun C hC => ?_
 refine wk5 ?_
 exact fin
def numbP (z:Int) (s:Nat):Arr:=.mk (0 ||| s) [] [intC z]
theorem ofZ_small {z:Int} (h0:0≤z) (h1:z≤4294967295):(ofZ z).top.length≤1∧(ofZ z).bot.length=1:=by
 refine ⟨?_,rfl⟩
 show (limbs z.natAbs).length≤1
 by_cases h:z.natAbs=0
 ·rw [h,limbs_zero]; exact Nat.zero_le _
 ·rw [limbs_pos h,show z.natAbs / 4294967296=0 from by omega,limbs_zero]; exact Nat.le_refl _
theorem number_a (z:Int) (s:Nat) (h0:0≤z) (h1:z≤4294967295) (hs:s<18446744073709551616):ACalls Tryz.prog 105 [nA z,labV s] (.agg (arrV (numbP z s))):=by
 have hB:maxB=1000000000:=rfl
 have c1:=arrIntG_a z (by omega) (by omega)
 have hl:=ofZ_small h0 h1
 have c2:=scalar_a (intC z) (show (ofZ z).top.length≤_ by omega) (show (ofZ z).bot.length≤_ by omega) (Nat.zero_le _)
 have c3:=raiP_a (.mk 0 [] [intC z]) s (show (0:Nat)<18446744073709551616 by decide) hs
 refine acalls_of code_mold_number (by simp [fn_mold_number]) fun C hC => ?_
 refine wk5 ?_
 exact fin
def matP (A B:Arr) (same:Bool):Arr:=numbP (if eqvA false A B=same then 1 else 0) (totA A ||| totA B)
theorem mmatch_a (A B:Arr) (same:Bool) (hA:okA A) (hB:okA B):ACalls Tryz.prog 80 [.agg (arrV A),.agg (arrV B),.lit (.bool same)] (.agg (arrV (matP A B same))):=by
 have c1:=match_a A B
 have c2:=total_a A hA
 have c3:=total_a B hB
 have c4:=join_a (totA A) (totA B) (totA_lt A hA) (totA_lt B hB)
 have hor:=or_lt (totA A) (totA B) (totA_lt A hA) (totA_lt B hB)
 unfold matP
 generalize eqvA false A B=v at c1
 have c5:=number_a (if v=same then 1 else 0) (totA A ||| totA B) (by split<;>omega) (by split<;>omega) hor
 refine acalls_of code_mold_Match (by simp [fn_mold_Match]) fun C hC => ?_
 cases v<;>cases same
 all_goals
  simp only [Bool.false_eq_true,Bool.true_eq_false,if_true,if_false] at c5 ⊢
  refine wk5 ?_
  exact fin
theorem intsR_len {N:Arr} (h:N.cells.length≤2048):(intsR N).1.length≤2048:=by
 unfold intsR
 split
 ·exact Nat.zero_le _
 ·split
  ·rename_i l hl; have:=intsF_len hl; dsimp only; omega
  ·exact Nat.zero_le _
def fromP (A:Arr):List Cell:=if A.cells.length=0 then [filC A] else A.cells
theorem fromP_pos (A:Arr):0<(fromP A).length:=by
 unfold fromP; split
 ·exact Nat.one_pos
 ·omega
def resL (A:Arr) (n:Nat):List Cell:=(List.range n).map fun i=>(fromP A).getD (i % (fromP A).length) cellD
def resP (N A:Arr):Arr × Int :=
 if (intsR N).2≠0 then (zA,(intsR N).2) else
 if (cnt (intsR N).1).2≠0 then (zA,(cnt (intsR N).1).2) else
 (.mk (A.s ||| totA N) (intsR N).1 (resL A (cnt (intsR N).1).1.toNat),0)
theorem res_a (N A:Arr) (hN:arrOK N) (kN:okJ N) (hs:A.s<18446744073709551616) (hl:A.cells.length≤2048):ACalls Tryz.prog 20 [.agg (arrV N),.agg (arrV A)] (.tup [.agg (arrV (resP N A).1),nA (resP N A).2]):=by
 have c0:=arrInts_a N hN kN.ok
 have ll:=intsA_len .i64 (intsR N).1
 unfold resP
 by_cases h0:(intsR N).2=0
 ·rw [h0] at c0
  rw [if_neg (fun h=>h h0)]
  have c1:=count_a (intsR N).1
  have hle:=cnt_le (intsR N).1
  generalize (intsR N).1=l at c0 ll c1 hle ⊢
  by_cases h1:(cnt l).2=0
  ·rw [h1] at c1
   rw [if_neg (fun h=>h h1)]
   have c2:=fill_a A
   have c3:=total_a N kN.ok
   have c4:=join_a A.s (totA N) hs (totA_lt N kN.ok)
   have lA:=cells_len A
   obtain ⟨n,hn⟩:∃ n:Nat,(cnt l).1=n:=⟨(cnt l).1.toNat,by omega⟩
   rw [hn] at c1 ⊢
   rw [Int.toNat_natCast]
   have hn2:n≤2048:=by omega
   have hCl:(resL A n).length=n:=by simp [resL]
   have hCg:∀ i,i<n→(resL A n)[i]? = some ((fromP A).getD (i % (fromP A).length) cellD):=fun i hi=>by simp [resL,hi]
   have hF:(A.cells.length=0∧fromP A=[filC A])∨(A.cells.length≠0∧fromP A=A.cells):=by
    unfold fromP; split
    ·exact .inl ⟨by assumption,rfl⟩
    ·exact .inr ⟨by assumption,rfl⟩
   have hFp:=fromP_pos A
   have hFl:(fromP A).length≤2048:=by
    unfold fromP; split
    ·simp
    ·exact hl
   generalize resL A n=CS at hCl hCg ⊢
   subst hCl
   have e0:=rowK_zero cellV cellZ CS
   have lF:(((fromP A).map cellR).length:Int)=(fromP A).length:=by simp
   have round:∀ k,k<CS.length→((fromP A).map cellR)[((k:Int) % ((fromP A).length:Int)).toNat]? = some (cellV ((fromP A).getD (k % (fromP A).length) cellD)):=fun k hk=>by
    rw [← Int.natCast_emod,Int.toNat_natCast]
    have hlt:k % (fromP A).length<(fromP A).length:=Nat.mod_lt _ hFp
    rw [List.getD_eq_getElem?_getD,List.getElem?_eq_getElem hlt]
    exact cell_at (List.getElem?_eq_getElem hlt)
   refine acalls_of code_mold_Reshape (by simp [fn_mold_Reshape]) fun C hC => ?_
   rcases hF with ⟨z1,z2⟩|⟨z1,z2⟩
   ·have hX:[cellV (filC A)]=(fromP A).map cellR:=by rw [z2]; simp [cellR_eq]
    refine wk5 ?_
    refine aw_freeze 3 rfl ?_
    refine aw_view 9 rfl rfl ?_
    refine aw_slotZ 9 (.sl 7 ((fromP A).map cellR)) (by rw [← hX]; rfl) ?_
    refine aw_slotZ 41 (nA (CS.length:Int)) (by show AV.lit (.int .i64 ((List.replicate _ _).length:Int))=_; rw [List.length_replicate]; rfl) ?_
    refine aw_loopB [2,3,4,6,9,10,41] [0,1,2] (fun k:Nat=>[(42,nA k)]) (fun k=>[(4,some ⟨true,false,54,7,rowK cellV cellZ CS k⟩)]) 5
     (fun k=>k≤CS.length) (fun k=>CS.length - k) 0 (Nat.zero_le _) ?_
    intro k hk
    dsimp only [List.cons_append,List.nil_append] at hk ⊢
    by_cases hlt:k<CS.length
    ·have hr:=round k hlt
     have hset:=rowK_set cellV cellZ CS k _ (hCg k hlt)
     have hget:=rowK_get cellV cellZ CS k hlt
     have hll:=rowK_len cellV cellZ CS k hk
     have hF0:(0:Int)<(fromP A).length:=by omega
     have hm0:0≤(k:Int) % ((fromP A).length:Int):=Int.emod_nonneg _ (by omega)
     have hm1:(k:Int) % ((fromP A).length:Int)<(fromP A).length:=Int.emod_lt_of_pos _ hF0
     generalize (fromP A).getD (k % (fromP A).length) cellD=c at hr hset
     refine wk5 ?_
     exact ⟨k+1,by omega,by omega,wkR hC.m [] (by rw [← hset]; rfl)⟩
    ·rw [rowK_end cellV cellZ CS k hlt,show CS.map cellV=CS.map cellR from by simp [cellR_eq]]
     refine wk5 ?_
     exact fin
   ·refine wk5 ?_
    refine aw_slotZ 9 (.sl 7 ((fromP A).map cellR)) (by rw [z2]; rfl) ?_
    refine aw_slotZ 41 (nA (CS.length:Int)) (by show AV.lit (.int .i64 ((List.replicate _ _).length:Int))=_; rw [List.length_replicate]; rfl) ?_
    refine aw_loopB [2,3,4,6,9,10,41] [0,1,2] (fun k:Nat=>[(42,nA k)]) (fun k=>[(3,some ⟨true,false,54,7,rowK cellV cellZ CS k⟩)]) 4
     (fun k=>k≤CS.length) (fun k=>CS.length - k) 0 (Nat.zero_le _) ?_
    intro k hk
    dsimp only [List.cons_append,List.nil_append] at hk ⊢
    by_cases hlt:k<CS.length
    ·have hr:=round k hlt
     have hset:=rowK_set cellV cellZ CS k _ (hCg k hlt)
     have hget:=rowK_get cellV cellZ CS k hlt
     have hll:=rowK_len cellV cellZ CS k hk
     have hF0:(0:Int)<(fromP A).length:=by omega
     have hm0:0≤(k:Int) % ((fromP A).length:Int):=Int.emod_nonneg _ (by omega)
     have hm1:(k:Int) % ((fromP A).length:Int)<(fromP A).length:=Int.emod_lt_of_pos _ hF0
     generalize (fromP A).getD (k % (fromP A).length) cellD=c at hr hset
     refine wk5 ?_
     exact ⟨k+1,by omega,by omega,wkR hC.m [] (by rw [← hset]; rfl)⟩
    ·rw [rowK_end cellV cellZ CS k hlt,show CS.map cellV=CS.map cellR from by simp [cellR_eq]]
     refine wk5 ?_
     exact fin
  ·rw [if_pos h1]
   generalize (cnt l).2=e at *
   generalize (cnt l).1=e' at *
   refine acalls_of code_mold_Reshape (by simp [fn_mold_Reshape]) fun C hC => ?_
   refine wk5 ?_
   exact fin
 ·rw [if_pos h0]
  generalize (intsR N).2=e at *
  refine acalls_of code_mold_Reshape (by simp [fn_mold_Reshape]) fun C hC => ?_
  refine wk5 ?_
  exact fin
end Go.Proofs.YtnnipocjapblkaaGreat
