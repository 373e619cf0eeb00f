/- Every function of two arrays: the walks of prim.in, prim.more, prim.Two. -/
import Derived.Test.YtnnipocjapblkaaGreatK33
import Derived.Test.YtnnipocjapblkaaGreatK30
set_option maxRecDepth 10000
set_option maxHeartbeats 4000000
namespace Go.Proofs.YtnnipocjapblkaaGreat
set_option linter.unusedVariables false
open Go.RowKit
theorem in_a {d:Nat} (A B:Arr) (hA:arrOK A) (kA:okJ A) (tB:okT d B):ACalls Tryz.prog 26 [.agg (arrV A),.agg (arrV B)] (.tup [.agg (arrV (inP A B).1),nA (inP A B).2]):=by
 have hB:maxB=1000000000:=rfl
 have kB:=tB.j
 have c0:=arrInts_a A hA kA.ok
 have ll:=intsA_len .i64 (intsR A).1
 have hle:=intsR_len kA.cells
 have hBl:=kB.cells
 have lB:=cells_len B
 have ls:=intsA_len .i64 B.shape
 unfold inP
 by_cases h0:(intsR A).2=0
 ·rw [h0] at c0
  rw [if_neg (fun h=>h h0)]
  clear h0
  generalize (intsR A).1=l at *
  by_cases h1:l.length=1
  ·obtain ⟨z,rfl⟩:=List.length_eq_one_iff.1 h1
   rw [if_neg (fun h=>h h1)]
   rw [show ([z]:List Int).headD 0=z from rfl]
   have hz:(intsA .i64 [z])[(0:Int).toNat]? = some [.lit (.int .i64 z)]:=rfl
   generalize hL:intsA .i64 [z]=L at *
   have ll:(L.length:Int)=1:=ll
   clear hL
   by_cases h2:B.shape.length=1
   ·rw [if_neg (fun h=>h h2)]
    by_cases h3:z<1
    ·rw [if_pos (.inl h3)]
     refine acalls_of code_prim_in (by simp [fn_prim_in]) fun C hC => ?_
     refine wk5 ?_
     exact fin
    ·by_cases h4:z > (B.cells.length:Int)
     ·rw [if_pos (.inr h4)]
      refine acalls_of code_prim_in (by simp [fn_prim_in]) fun C hC => ?_
      refine wk5 ?_
      exact fin
     ·rw [if_neg (by omega)]
      have hlt:(z - 1).toNat<B.cells.length:=by omega
      have hd:B.cells[(z - 1).toNat]? = some (B.cells.getD (z - 1).toNat cellD):=by rw [List.getD_eq_getElem?_getD,List.getElem?_eq_getElem hlt]; rfl
      have hdk:=cell_at hd
      have hdo:=tB.cell (List.mem_of_getElem? hd)
      have c1:=unpack_a _ hdo
      have hus:(unpC (B.cells.getD (z - 1).toNat cellD)).s<18446744073709551616:=by
       have:=okC_get kB.ok.cs (z - 1).toNat
       generalize B.cells.getD (z - 1).toNat cellD=c at this
       unfold unpC
       split
       ·rename_i h
        obtain ⟨a,ha⟩:=List.length_eq_one_iff.1 h.2
        rw [ha]
        exact or_lt _ _ (okAs_mem.1 this.parts.2.2.2.2 a (by rw [ha]; simp)).parts.1 this.parts.1
       ·exact or_lt _ _ (by omega) this.parts.1
      have hjl:=or_lt _ _ kB.ok.parts.1 (totA_lt A kA.ok)
      have c2:=total_a A kA.ok
      have c3:=join_a B.s (totA A) kB.ok.parts.1 (totA_lt A kA.ok)
      have c4:=raiP_a (unpC (B.cells.getD (z - 1).toNat cellD)) (B.s ||| totA A) hus hjl
      generalize B.cells.getD (z - 1).toNat cellD=c at *
      generalize raiP (unpC c) (B.s ||| totA A)=R at *
      generalize unpC c=U at *
      clear hle hus hjl
      refine acalls_of code_prim_in (by simp [fn_prim_in]) fun C hC => ?_
      refine wk5 ?_
      exact fin
   ·rw [if_pos h2]
    refine acalls_of code_prim_in (by simp [fn_prim_in]) fun C hC => ?_
    refine wk5 ?_
    exact fin
  ·rw [if_pos h1]
   refine acalls_of code_prim_in (by simp [fn_prim_in]) fun C hC => ?_
   refine wk5 ?_
   exact fin
 ·rw [if_pos h0]
  generalize (intsR A).2=e at *
  generalize (intsR A).1=l at *
  refine acalls_of code_prim_in (by simp [fn_prim_in]) fun C hC => ?_
  refine wk5 ?_
  exact fin
theorem more_a (f:Int) {d:Nat} (A B:Arr) (tA:okT d A) (tB:okT d B):ACalls Tryz.prog 27 [nA f,.agg (arrV A),.agg (arrV B)] (.tup [.agg (arrV (moreP f d A B).1),nA (moreP f d A B).2]):=by
 have kA:=tA.j
 have kB:=tB.j
 have oA:=tA.arrOK
 have oB:=tB.arrOK
 unfold moreP
 by_cases h8801:f=8801
 ·subst h8801
  rw [if_pos rfl]
  have c1:=mmatch_a A B true kA.ok kB.ok
  generalize matP A B true=R at *
  clear oA oB kA kB tA tB
  refine acalls_of code_prim_more (by simp [fn_prim_more]) fun C hC => ?_
  refine wk5 ?_
  exact fin
 rw [if_neg h8801]
 by_cases h8802:f=8802
 ·subst h8802
  rw [if_pos rfl]
  have c1:=mmatch_a A B false kA.ok kB.ok
  generalize matP A B false=R at *
  clear oA oB kA kB tA tB
  refine acalls_of code_prim_more (by simp [fn_prim_more]) fun C hC => ?_
  refine wk5 ?_
  exact fin
 rw [if_neg h8802]
 by_cases h9075:f=9075
 ·subst h9075
  rw [if_pos rfl]
  have c1:=Index_a A B kA kB
  generalize indexP A B=R at *
  clear oA oB kA kB tA tB
  refine acalls_of code_prim_more (by simp [fn_prim_more]) fun C hC => ?_
  refine wk5 ?_
  exact fin
 rw [if_neg h9075]
 by_cases h8714:f=8714
 ·subst h8714
  rw [if_pos rfl]
  have c1:=Member_a A B kA kB
  generalize memberP A B=R at *
  clear oA oB kA kB tA tB
  refine acalls_of code_prim_more (by simp [fn_prim_more]) fun C hC => ?_
  refine wk5 ?_
  exact fin
 rw [if_neg h8714]
 by_cases h8746:f=8746
 ·subst h8746
  rw [if_pos rfl]
  have c1:=Union_a A B kA kB
  generalize unionP A B=R at *
  clear oA oB kA kB tA tB
  refine acalls_of code_prim_more (by simp [fn_prim_more]) fun C hC => ?_
  refine wk5 ?_
  exact fin
 rw [if_neg h8746]
 by_cases h8745:f=8745
 ·subst h8745
  rw [if_pos rfl]
  have c1:=Those_a A B true kA kB
  generalize thoseP A B true=R at *
  clear oA oB kA kB tA tB
  refine acalls_of code_prim_more (by simp [fn_prim_more]) fun C hC => ?_
  refine wk5 ?_
  exact fin
 rw [if_neg h8745]
 by_cases h126:f=126
 ·subst h126
  rw [if_pos rfl]
  have c1:=Those_a A B false kA kB
  generalize thoseP A B false=R at *
  clear oA oB kA kB tA tB
  refine acalls_of code_prim_more (by simp [fn_prim_more]) fun C hC => ?_
  refine wk5 ?_
  exact fin
 rw [if_neg h126]
 by_cases h47:f=47
 ·subst h47
  rw [if_pos rfl]
  have c1:=repl_a A B false oA kA kB
  generalize repP A B false=R at *
  clear oA oB kA kB tA tB
  refine acalls_of code_prim_more (by simp [fn_prim_more]) fun C hC => ?_
  refine wk5 ?_
  exact fin
 rw [if_neg h47]
 by_cases h9023:f=9023
 ·subst h9023
  rw [if_pos rfl]
  have c1:=repl_a A B true oA kA kB
  generalize repP A B true=R at *
  clear oA oB kA kB tA tB
  refine acalls_of code_prim_more (by simp [fn_prim_more]) fun C hC => ?_
  refine wk5 ?_
  exact fin
 rw [if_neg h9023]
 by_cases h92:f=92
 ·subst h92
  rw [if_pos rfl]
  have c1:=expand_a A B false oA kA kB
  generalize expP A B false=R at *
  clear oA oB kA kB tA tB
  refine acalls_of code_prim_more (by simp [fn_prim_more]) fun C hC => ?_
  refine wk5 ?_
  exact fin
 rw [if_neg h92]
 by_cases h9024:f=9024
 ·subst h9024
  rw [if_pos rfl]
  have c1:=expand_a A B true oA kA kB
  generalize expP A B true=R at *
  clear oA oB kA kB tA tB
  refine acalls_of code_prim_more (by simp [fn_prim_more]) fun C hC => ?_
  refine wk5 ?_
  exact fin
 rw [if_neg h9024]
 have c1:=twoA_a f d A B tA tB
 generalize twoA f d A B=R at *
 clear oA oB kA kB tA tB
 refine acalls_of code_prim_more (by simp [fn_prim_more]) fun C hC => ?_
 refine wk5 ?_
 exact fin
theorem prim_a (f:Int) {d:Nat} (A B:Arr) (tA:okT d A) (tB:okT d B):ACalls Tryz.prog 7 [nA f,.agg (arrV A),.agg (arrV B)] (.tup [.agg (arrV (twoP f d A B).1),nA (twoP f d A B).2]):=by
 have kA:=tA.j
 have kB:=tB.j
 have oA:=tA.arrOK
 have oB:=tB.arrOK
 unfold twoP
 by_cases h9076:f=9076
 ·subst h9076
  rw [if_pos rfl]
  have c1:=res_a A B oA kA kB.ok.parts.1 kB.cells
  generalize resP A B=R at *
  clear oA oB kA kB tA tB
  refine acalls_of code_prim_Two (by simp [fn_prim_Two]) fun C hC => ?_
  refine wk5 ?_
  exact fin
 rw [if_neg h9076]
 by_cases h44:f=44
 ·subst h44
  rw [if_pos rfl]
  have c1:=cat_a A B false kA kB
  generalize catP A B false=R at *
  clear oA oB kA kB tA tB
  refine acalls_of code_prim_Two (by simp [fn_prim_Two]) fun C hC => ?_
  refine wk5 ?_
  exact fin
 rw [if_neg h44]
 by_cases h9066:f=9066
 ·subst h9066
  rw [if_pos rfl]
  have c1:=cat_a A B true kA kB
  generalize catP A B true=R at *
  clear oA oB kA kB tA tB
  refine acalls_of code_prim_Two (by simp [fn_prim_Two]) fun C hC => ?_
  refine wk5 ?_
  exact fin
 rw [if_neg h9066]
 by_cases h9021:f=9021
 ·subst h9021
  rw [if_pos rfl]
  have c1:=rotate_a A B false oA kA kB
  generalize rotP A B false=R at *
  clear oA oB kA kB tA tB
  refine acalls_of code_prim_Two (by simp [fn_prim_Two]) fun C hC => ?_
  refine wk5 ?_
  exact fin
 rw [if_neg h9021]
 by_cases h8854:f=8854
 ·subst h8854
  rw [if_pos rfl]
  have c1:=rotate_a A B true oA kA kB
  generalize rotP A B true=R at *
  clear oA oB kA kB tA tB
  refine acalls_of code_prim_Two (by simp [fn_prim_Two]) fun C hC => ?_
  refine wk5 ?_
  exact fin
 rw [if_neg h8854]
 by_cases h9033:f=9033
 ·subst h9033
  rw [if_pos rfl]
  have c1:=permute_a A B oA kA kB
  generalize perP A B=R at *
  clear oA oB kA kB tA tB
  refine acalls_of code_prim_Two (by simp [fn_prim_Two]) fun C hC => ?_
  refine wk5 ?_
  exact fin
 rw [if_neg h9033]
 by_cases h8593:f=8593
 ·subst h8593
  rw [if_pos rfl]
  have c1:=take_a A B oA kA kB
  generalize cutP takS takG A B=R at *
  clear oA oB kA kB tA tB
  refine acalls_of code_prim_Two (by simp [fn_prim_Two]) fun C hC => ?_
  refine wk5 ?_
  exact fin
 rw [if_neg h8593]
 by_cases h8595:f=8595
 ·subst h8595
  rw [if_pos rfl]
  have c1:=drop_a A B oA kA kB
  generalize cutP drpS drpG A B=R at *
  clear oA oB kA kB tA tB
  refine acalls_of code_prim_Two (by simp [fn_prim_Two]) fun C hC => ?_
  refine wk5 ?_
  exact fin
 rw [if_neg h8595]
 by_cases h8835:f=8835
 ·subst h8835
  rw [if_pos rfl]
  have c1:=in_a A B oA kA tB
  generalize inP A B=R at *
  clear oA oB kA kB tA tB
  refine acalls_of code_prim_Two (by simp [fn_prim_Two]) fun C hC => ?_
  refine wk5 ?_
  exact fin
 rw [if_neg h8835]
 by_cases h8866:f=8866
 ·subst h8866
  rw [if_pos rfl]
  clear oA oB kA kB tA tB
  refine acalls_of code_prim_Two (by simp [fn_prim_Two]) fun C hC => ?_
  refine wk5 ?_
  exact fin
 rw [if_neg h8866]
 by_cases h8867:f=8867
 ·subst h8867
  rw [if_pos rfl]
  clear oA oB kA kB tA tB
  refine acalls_of code_prim_Two (by simp [fn_prim_Two]) fun C hC => ?_
  refine wk5 ?_
  exact fin
 rw [if_neg h8867]
 have c1:=more_a f A B tA tB
 generalize moreP f d A B=R at *
 clear oA oB kA kB tA tB
 refine acalls_of code_prim_Two (by simp [fn_prim_Two]) fun C hC => ?_
 refine wk5 ?_
 exact fin
end Go.Proofs.YtnnipocjapblkaaGreat
