/- No label gets lower: the law. -/
import Derived.Test.YtnnipocjapblkaaGreatK34
set_option maxRecDepth 10000
set_option maxHeartbeats 8000000
namespace Go.Proofs.YtnnipocjapblkaaGreat
set_option linter.unusedVariables false
open Go.RowKit
open Classical in
noncomputable def lightB (A:Arr):Bool:=if h:∃ b:Bool,ACalls Tryz.prog 16 [.agg (arrV A)] (.lit (.bool b)) then Classical.choose h else true
theorem lightB_a {A:Arr} (h:∃ b:Bool,ACalls Tryz.prog 16 [.agg (arrV A)] (.lit (.bool b))):ACalls Tryz.prog 16 [.agg (arrV A)] (.lit (.bool (lightB A))):=by
 unfold lightB
 rw [dif_pos h]
 exact Classical.choose_spec h
def quickC (c:Cell):Bool:=decide (c.n.top.length≤2) && (decide (c.n.bot.length≤2) && !((smallN c.n).2 && (decide ((smallN c.n).1 > 300) || decide ((smallN c.n).1 < -300))))
noncomputable def lightC (c:Cell):Bool:=quickC c && c.ins.all lightB
noncomputable def lightP (A:Arr):Bool:=decide (A.cells.length≤60) && A.cells.all lightC
theorem all_at {α:Type} {l:List α} {j:Nat} {x:α} (p:α→Bool) (h:l[j]? = some x):(l.drop j).all p=(p x && (l.drop (j+1)).all p):=by
 obtain ⟨hj,rfl⟩:=List.getElem?_eq_some_iff.1 h
 rw [List.drop_eq_getElem_cons hj]; rfl
theorem lightP_a (A:Arr) (hl:A.cells.length≤2048) (hn:∀ c ∈ A.cells,numOK c.n∧c.n.top.length≤32∧c.n.bot.length≤32∧c.ins.length≤1) (hin:∀ c ∈ A.cells,∀ a ∈ c.ins,ACalls Tryz.prog 16 [.agg (arrV a)] (.lit (.bool (lightB a)))) :
 ACalls Tryz.prog 16 [.agg (arrV A)] (.lit (.bool (lightP A))):=by
 have hB:maxB=1000000000:=rfl
 have lA:=cells_len A
 unfold lightP
 by_cases h60:A.cells.length≤60
 ·rw [decide_eq_true h60,Bool.true_and]
  generalize hR:A.cells.all lightC=R
  refine acalls_of code_scrimlaw19_Light (by simp [fn_scrimlaw19_Light]) fun C hC => ?_
  refine wk5 ?_
  refine aw_loopB [1,2] [0] (fun j:Nat=>[(3,nA j)]) (fun _=>[]) 1 (fun j=>j≤A.cells.length∧R=(A.cells.drop j).all lightC) (fun j=>A.cells.length - j) 0 ⟨Nat.zero_le _,hR.symm⟩ ?_
  rintro j ⟨hj,hE⟩
  dsimp only [List.cons_append,List.nil_append] at hj hE ⊢
  clear hR
  by_cases hlt:j<A.cells.length
  ·obtain ⟨c,hc⟩:∃ c,A.cells[j]? = some c:=⟨_,List.getElem?_eq_getElem hlt⟩
   have hck:=cell_at hc
   rw [all_at lightC hc] at hE
   obtain ⟨n1,n2,n3,n4⟩:=hn c (List.mem_of_getElem? hc)
   have hi:=hin c (List.mem_of_getElem? hc)
   have c1:=r4Small_a c.n n1 (by omega)
   have lt:=intsA_len .u32 c.n.top
   have lb:=intsA_len .u32 c.n.bot
   have li:=ins_len c
   clear hn hin
   have bad:quickC c=false→R=false:=fun h=>by rw [hE]; unfold lightC; rw [h]; rfl
   by_cases t2:c.n.top.length > 2
   ·have hq:quickC c=false:=by unfold quickC; rw [decide_eq_false (by omega)]; rfl
    rw [bad hq]
    clear hE bad
    refine wk5 ?_
    exact fin
   by_cases b2:c.n.bot.length > 2
   ·have hq:quickC c=false:=by unfold quickC; rw [decide_eq_true (by omega:c.n.top.length≤2),decide_eq_false (by omega)]; rfl
    rw [bad hq]
    clear hE bad
    refine wk5 ?_
    exact fin
   have hq0:quickC c = !((smallN c.n).2 && (decide ((smallN c.n).1 > 300) || decide ((smallN c.n).1 < -300))):=by
    unfold quickC; rw [decide_eq_true (by omega:c.n.top.length≤2),decide_eq_true (by omega:c.n.bot.length≤2)]; rfl
   generalize smallN c.n=q at c1 hq0
   obtain ⟨k,ok⟩:=q
   dsimp only at c1 hq0
   have good:quickC c=true→R=(c.ins.all lightB && (A.cells.drop (j+1)).all lightC):=fun h=>by rw [hE]; unfold lightC; rw [h]; rfl
   have rest:R=(c.ins.all lightB && (A.cells.drop (j+1)).all lightC)→ok=false∨(k≤300 ∧ -300≤k)→True:=fun _ _=>trivial
   clear rest
   cases ok
   ·have hq:quickC c=true:=by rw [hq0]; rfl
    have hE:=good hq
    clear good bad hq0
    refine wk5 ?_
    refine aw_loopB [1,2,3,4] [0,1] (fun i:Nat=>[(7,nA i)]) (fun _=>[]) 2 (fun i=>i≤c.ins.length∧R=((c.ins.drop i).all lightB && (A.cells.drop (j+1)).all lightC)) (fun i=>c.ins.length - i) 0 ⟨Nat.zero_le _,hE⟩ ?_
    rintro i ⟨hi1,hE2⟩
    dsimp only [List.cons_append,List.nil_append] at hi1 hE2 ⊢
    clear hE c1
    by_cases hil:i<c.ins.length
    ·obtain ⟨a,ha⟩:∃ a,c.ins[i]? = some a:=⟨_,List.getElem?_eq_getElem hil⟩
     have hak:=arr_at ha
     have c2:=hi a (List.mem_of_getElem? ha)
     rw [all_at lightB ha] at hE2
     cases hb:lightB a
     ·rw [hb] at c2 hE2
      simp only [Bool.false_and] at hE2
      subst hE2
      refine wk5 ?_
      exact fin
     ·rw [hb] at c2 hE2
      simp only [Bool.true_and] at hE2
      refine wk5 ?_
      exact ⟨i+1,by omega,⟨by omega,hE2⟩,wkR hC.m []⟩
    ·rw [List.drop_eq_nil_of_le (by omega)] at hE2
     simp only [List.all_nil,Bool.true_and] at hE2
     clear hi
     refine wk5 ?_
     exact ⟨j+1,by omega,⟨by omega,hE2⟩,wkR hC.m []⟩
   ·by_cases k3:k > 300
    ·have hq:quickC c=false:=by rw [hq0,decide_eq_true k3]; rfl
     rw [bad hq]
     clear hE bad good
     refine wk5 ?_
     exact fin
    by_cases k4:k < -300
    ·have hq:quickC c=false:=by rw [hq0,decide_eq_false k3,decide_eq_true k4]; rfl
     rw [bad hq]
     clear hE bad good
     refine wk5 ?_
     exact fin
    have hq:quickC c=true:=by rw [hq0,decide_eq_false k3,decide_eq_false k4]; rfl
    have hE:=good hq
    clear good bad hq0
    refine wk5 ?_
    refine aw_loopB [1,2,3,4] [0,1] (fun i:Nat=>[(7,nA i)]) (fun _=>[]) 2 (fun i=>i≤c.ins.length∧R=((c.ins.drop i).all lightB && (A.cells.drop (j+1)).all lightC)) (fun i=>c.ins.length - i) 0 ⟨Nat.zero_le _,hE⟩ ?_
    rintro i ⟨hi1,hE2⟩
    dsimp only [List.cons_append,List.nil_append] at hi1 hE2 ⊢
    clear hE c1
    by_cases hil:i<c.ins.length
    ·obtain ⟨a,ha⟩:∃ a,c.ins[i]? = some a:=⟨_,List.getElem?_eq_getElem hil⟩
     have hak:=arr_at ha
     have c2:=hi a (List.mem_of_getElem? ha)
     rw [all_at lightB ha] at hE2
     cases hb:lightB a
     ·rw [hb] at c2 hE2
      simp only [Bool.false_and] at hE2
      subst hE2
      refine wk5 ?_
      exact fin
     ·rw [hb] at c2 hE2
      simp only [Bool.true_and] at hE2
      refine wk5 ?_
      exact ⟨i+1,by omega,⟨by omega,hE2⟩,wkR hC.m []⟩
    ·rw [List.drop_eq_nil_of_le (by omega)] at hE2
     simp only [List.all_nil,Bool.true_and] at hE2
     clear hi
     refine wk5 ?_
     exact ⟨j+1,by omega,⟨by omega,hE2⟩,wkR hC.m []⟩
  ·rw [List.drop_eq_nil_of_le (by omega)] at hE
   simp only [List.all_nil] at hE
   subst hE
   clear hn hin
   refine wk5 ?_
   exact fin
 ·rw [decide_eq_false h60,Bool.false_and]
  refine acalls_of code_scrimlaw19_Light (by simp [fn_scrimlaw19_Light]) fun C hC => ?_
  refine wk5 ?_
  exact fin
theorem okTC.light {p:Arr→Prop} {c:Cell} (h:okTC p c):numOK c.n∧c.n.top.length≤32∧c.n.bot.length≤32∧c.ins.length≤1:=by
 have hl:=h.len
 refine ⟨?_,hl⟩
 rcases h.2 with ⟨_,_,_,q⟩|⟨_,q,_⟩|⟨_,q,_⟩
 ·exact q.ok
 ·rw [q]; exact limOK.num (by intro z hz; simp [zN] at hz) (by intro z hz; simp [zN] at hz) (by simp [zN]) (by simp [zN])
 ·rw [q]; exact limOK.num (by intro z hz; simp [zN] at hz) (by intro z hz; simp [zN] at hz) (by simp [zN]) (by simp [zN])
theorem light_a:∀ (d:Nat) (A:Arr),okT d A→ACalls Tryz.prog 16 [.agg (arrV A)] (.lit (.bool (lightB A)))
 | 0,A,h=>lightB_a ⟨_,lightP_a A h.1.cells (fun c hc=>(h.2 c hc).light) fun c hc a ha=>by
   rcases (h.2 c hc).2 with ⟨_,_,q,_⟩|⟨_,_,q,_⟩|⟨_,_,_,x,_,q⟩
   ·rw [q] at ha; simp at ha
   ·rw [q] at ha; simp at ha
   ·exact q.elim⟩
 | d+1,A,h=>lightB_a ⟨_,lightP_a A h.1.cells (fun c hc=>(h.2 c hc).light) fun c hc a ha=>by
   rcases (h.2 c hc).2 with ⟨_,_,q,_⟩|⟨_,_,q,_⟩|⟨_,_,_,x,q,r⟩
   ·rw [q] at ha; simp at ha
   ·rw [q] at ha; simp at ha
   ·rw [q] at ha; simp at ha; subst ha; exact light_a d a r⟩
noncomputable def fineB (A:Arr):Bool:=goodA A && lightB A
theorem fine_a (A:Arr) (hA:arrOK A):ACalls Tryz.prog 5 [.agg (arrV A)] (.lit (.bool (fineB A))):=by
 have c1:=good_a A hA
 unfold fineB
 cases h:goodA A
 ·rw [h] at c1
  rw [Bool.false_and]
  refine acalls_of code_scrimtop_fine (by simp [fn_scrimtop_fine]) fun C hC => ?_
  refine wk5 ?_
  exact fin
 ·rw [h] at c1
  rw [Bool.true_and]
  have c2:=light_a 8 A (okT_good hA h)
  refine acalls_of code_scrimtop_fine (by simp [fn_scrimtop_fine]) fun C hC => ?_
  refine wk5 ?_
  exact fin
theorem fine_okT {A:Arr} (hA:arrOK A) (h:fineB A=true):okT 8 A:=by
 unfold fineB at h
 rw [Bool.and_eq_true] at h
 exact okT_good hA h.1
theorem szZ_small {z:Int} (h:z.natAbs<2 ^ 32):szZ z≤32:=by
 have:=limbs_len_pow 32 z.natAbs h
 unfold szZ; omega
theorem numQ_int {z:Int} (h:z.natAbs<2 ^ 32):NumQ (ofZ z):=⟨z,1,ofZ_q z,by omega,szZ_small h,by rw [limbs_one]; simp⟩
theorem snum_add (x y:Int) (hx:x.natAbs<2 ^ 32) (hy:y.natAbs<2 ^ 32):ACalls Tryz.prog 183 [nA 43,.agg (numV (ofZ x)),.agg (numV (ofZ y))] (.tup [.agg (numV (mkQ (x * (1:Nat)+y * (1:Nat)) ((1:Nat) * (1:Nat):Int)).1),nA (mkQ (x * (1:Nat)+y * (1:Nat)) ((1:Nat) * (1:Nat):Int)).2]):=by
 have sx:=szZ_small hx
 have sy:=szZ_small hy
 have c1:=radd_a x 1 y 1 (by omega) (by rw [limbs_one]; simp) (by omega) (by rw [limbs_one]; simp)
 rw [← ofZ_q,← ofZ_q] at c1
 generalize mkQ (x * (1:Nat)+y * (1:Nat)) ((1:Nat) * (1:Nat):Int)=R at *
 refine acalls_of code_scalar_Numbers (by simp [fn_scalar_Numbers]) fun C hC => ?_
 refine wk5 ?_
 exact fin
theorem mkQ_int (z:Int) (h:z.natAbs<2 ^ 32):mkQ z 1=(ofZ z,0):=by
 have h1:=szZ_small h
 unfold szZ at h1
 unfold mkQ mkR
 have e0:decide ((1:Int)<0)=false:=rfl
 have e1:(1:Int).natAbs=1:=rfl
 rw [e0,e1,Nat.gcd_one_right,Nat.div_one,Nat.div_one,if_neg (by omega),if_neg (by rw [limbs_one]; simp; omega),ofZ_q]
 congr 1
 congr 1
 cases hz:decide (z<0)
 ·have:=of_decide_eq_false hz
  simp [sg]; omega
 ·have:=of_decide_eq_true hz
  simp [sg]; omega
theorem numsF_13:numsF 43 (ofZ 1) (ofZ 3)=(ofZ 4,0):=by
 have hg:guessF (ofZ 1)=(ofZ 4,0):=by unfold guessF; rw [if_pos]; show limbs 1=[1]; rw [limbs_one]
 have c:=snum_add 1 3 (by decide) (by decide)
 rw [show ((1:Int) * (1:Nat)+3 * (1:Nat))=4 from rfl,show (((1:Nat):Int) * (1:Nat))=1 from rfl,mkQ_int 4 (by decide)] at c
 have hR:NumR (ofZ 4):=.inr (numQ_int (by decide))
 rw [← hg] at c ⊢
 exact numsF_guess (by rw [hg]; exact hR) c
theorem numsF_23:numsF 43 (ofZ 2) (ofZ 3)=(ofZ 5,0):=by
 have hg:guessF (ofZ 2)=(ofZ 5,0):=by
  unfold guessF; rw [if_neg]; show ¬ limbs 2=[1]
  intro e
  have:=congrArg valL e
  rw [valL_limbs,← limbs_one,valL_limbs] at this
  omega
 have c:=snum_add 2 3 (by decide) (by decide)
 rw [show ((2:Int) * (1:Nat)+3 * (1:Nat))=5 from rfl,show (((1:Nat):Int) * (1:Nat))=1 from rfl,mkQ_int 5 (by decide)] at c
 have hR:NumR (ofZ 5):=.inr (numQ_int (by decide))
 rw [← hg] at c ⊢
 exact numsF_guess (by rw [hg]; exact hR) c
def vec2 (s:Nat) (x y:Int):Arr:=.mk s [2] [intC x,intC y]
theorem okT_int {p:Arr→Prop} {z:Int} (h:z.natAbs<2 ^ 32):okTC p (intC z):=⟨by show (0:Nat)<_; omega,.inl ⟨rfl,rfl,rfl,numQ_int h⟩⟩
theorem okT_vec2 (s:Nat) (hs:s<18446744073709551616) {x y:Int} (hx:x.natAbs<2 ^ 32) (hy:y.natAbs<2 ^ 32):okT 8 (vec2 s x y) :=
 ⟨⟨hs,show (cnt [2]).2=0 by decide,show (cnt [2]).1=((2:Nat):Int) by decide⟩,fun c hc=>by
   simp only [vec2,Arr.cells,List.mem_cons,List.not_mem_nil,or_false] at hc
   rcases hc with rfl|rfl
   ·exact okT_int hx
   ·exact okT_int hy⟩
theorem okT_one (s:Nat) (hs:s<18446744073709551616) {x:Int} (hx:x.natAbs<2 ^ 32):okT 8 (.mk s [] [intC x]) :=
 ⟨⟨hs,show (cnt []).2=0 by decide,show (cnt []).1=((1:Nat):Int) by decide⟩,fun c hc=>by
   simp only [Arr.cells,List.mem_cons,List.not_mem_nil,or_false] at hc
   subst hc; exact okT_int hx⟩
theorem two_sum:twoP 43 8 (vec2 2 1 2) (.mk 4 [] [intC 3])=(vec2 6 4 5,0):=by
 have e1:∀ two,twoC two 43 (intC 1) (intC 3)=(intC 4,0):=fun two=>by
  unfold twoC
  rw [if_neg (by decide),if_pos (by decide)]
  show (Cell.mk (0 ||| 0) 0 (numsF 43 (ofZ 1) (ofZ 3)).1 0 [],(numsF 43 (ofZ 1) (ofZ 3)).2)=_
  rw [numsF_13]; rfl
 have e2:∀ two,twoC two 43 (intC 2) (intC 3)=(intC 5,0):=fun two=>by
  unfold twoC
  rw [if_neg (by decide),if_pos (by decide)]
  show (Cell.mk (0 ||| 0) 0 (numsF 43 (ofZ 2) (ofZ 3)).1 0 [],(numsF 43 (ofZ 2) (ofZ 3)).2)=_
  rw [numsF_23]; rfl
 have hm:moreP 43 8 (vec2 2 1 2) (.mk 4 [] [intC 3])=twoA 43 8 (vec2 2 1 2) (.mk 4 [] [intC 3]):=by
  unfold moreP
  iterate 11 rw [if_neg (by decide)]
 have ht:twoP 43 8 (vec2 2 1 2) (.mk 4 [] [intC 3])=moreP 43 8 (vec2 2 1 2) (.mk 4 [] [intC 3]):=by
  unfold twoP
  iterate 11 rw [if_neg (by decide)]
 rw [ht,hm]
 show twoS (twoA 43 7) 43 _ _=_
 generalize twoA 43 7=two
 have hc:cntP (vec2 2 1 2) (.mk 4 [] [intC 3])=2:=rfl
 have l1:((List.range 2).map fun i=>(twoC two 43 (pickP (vec2 2 1 2) i) (pickP (.mk 4 [] [intC 3]) i)).2)=[0,0]:=by
  show [(twoC two 43 (intC 1) (intC 3)).2,(twoC two 43 (intC 2) (intC 3)).2]=_
  rw [e1,e2]
 have l2:((List.range 2).map fun i=>(twoC two 43 (pickP (vec2 2 1 2) i) (pickP (.mk 4 [] [intC 3]) i)).1)=[intC 4,intC 5]:=by
  show [(twoC two 43 (intC 1) (intC 3)).1,(twoC two 43 (intC 2) (intC 3)).1]=_
  rw [e1,e2]
 unfold twoS
 rw [hc,l1,l2,if_neg (by decide),if_neg (by decide),if_neg (by decide)]
 rfl
theorem sums_a:ACalls Tryz.prog 6 [] (.lit (.bool true)):=by
 have c1:ACalls Tryz.prog 17 [.sl 1 [[.lit (.int .i64 1)],[.lit (.int .i64 2)]],labV 2] (.agg (arrV (vec2 2 1 2))):=r11Vector_a [1,2] 2 (by simp [maxB]) (by intro z hz; simp at hz; omega)
 have c2:=alone_a 3 4 (by omega) (by omega)
 have tV:=okT_vec2 2 (by omega) (x:=1) (y:=2) (by decide) (by decide)
 have tO:=okT_one 4 (by omega) (x:=3) (by decide)
 have c3:=prim_a 43 (d:=8) _ _ tV tO
 rw [two_sum] at c3
 have o6:=(okT_vec2 6 (by omega) (x:=4) (y:=5) (by decide) (by decide)).arrOK
 have c5:=same_a _ _ o6 o6
 rw [sameA_refl] at c5
 dsimp only at c3
 clear tV tO o6
 generalize hX:vec2 2 1 2=X at *
 generalize hY:Arr.mk 4 [] [intC 3]=Y at *
 clear hX hY
 have k1:True→_:=fun _=>c1
 clear c1
 refine acalls_of code_scrimtop_sums (by simp [fn_scrimtop_sums]) fun C hC => ?_
 refine wk5 ?_
 refine r_callF 0 [0] (k1 trivial) ?_
 refine rrun5 ?_
 refine rg_nil ⟨rfl,?_⟩
 clear c2 c3 k1
 have c4:ACalls Tryz.prog 17 [.sl 1 [[.lit (.int .i64 4)],[.lit (.int .i64 5)]],labV 6] (.agg (arrV (vec2 6 4 5))):=r11Vector_a [4,5] 6 (by simp [maxB]) (by intro z hz; simp at hz; omega)
 generalize vec2 6 4 5=Z at *
 refine wk5 ?_
 exact fin
theorem topRises_core (f:Int) (A B A' B' X Y:Arr) (e:Int) (l:Nat) (hl:l<18446744073709551616) (f1:ACalls Tryz.prog 5 [.agg (arrV A)] (.lit (.bool true))) (f2:ACalls Tryz.prog 5 [.agg (arrV B)] (.lit (.bool true)))
 (c1:ACalls Tryz.prog 8 [.agg (arrV A),labV l] (.agg (arrV A'))) (c2:ACalls Tryz.prog 8 [.agg (arrV B),labV l] (.agg (arrV B')))
 (p1:ACalls Tryz.prog 7 [nA f,.agg (arrV A),.agg (arrV B)] (.tup [.agg (arrV X),nA e])) (p2:ACalls Tryz.prog 7 [nA f,.agg (arrV A'),.agg (arrV B')] (.tup [.agg (arrV Y),nA e]))
 (oX:okA X) (oY:okA Y) (h:upA l X Y) :
 ACalls Tryz.prog 3 [nA f,.agg (arrV A),.agg (arrV B),labV l] (.lit (.bool true)):=by
 have c0:=sums_a
 by_cases he:e=0
 ·subst he
  have m:=match_a X Y
  rw [upA_eqv h] at m
  have t1:=total_a X oX
  have t2:=total_a Y oY
  have lX:=totA_lt X oX
  have lY:=totA_lt Y oY
  obtain ⟨u1,u2⟩:=upA_tot h
  generalize totA X=x at *
  generalize totA Y=y at *
  have j:=rjoin_a x l lX hl
  have g1:=rflows_a y (x ||| l) lY (or_lt x l lX hl)
  have g2:=rflows_a x y lX lY
  have e1:flowsN y (x ||| l)=true:=by unfold flowsN; rw [u2]; simp
  have e2:flowsN x y=true:=by unfold flowsN; rw [u1]; simp
  rw [e1] at g1
  rw [e2] at g2
  clear e1 e2 u1 u2
  generalize x ||| l=z at *
  refine acalls_of code_scrimtop_TopRises (by simp [fn_scrimtop_TopRises]) fun C hC => ?_
  refine wk5 ?_
  exact fin
 ·refine acalls_of code_scrimtop_TopRises (by simp [fn_scrimtop_TopRises]) fun C hC => ?_
  refine wk5 ?_
  exact fin
theorem topRises_a (f:Int) (A B:Arr) (l:Nat) (hf:(Lit.int .i64 f).wf=true) (hA:arrOK A) (hB:arrOK B) (hl:l<18446744073709551616) :
 ACalls Tryz.prog 3 [nA f,.agg (arrV A),.agg (arrV B),labV l] (.lit (.bool true)):=by
 have f1:=fine_a A hA
 have f2:=fine_a B hB
 cases h1:fineB A
 ·rw [h1] at f1
  clear f2
  have c0:=sums_a
  refine acalls_of code_scrimtop_TopRises (by simp [fn_scrimtop_TopRises]) fun C hC => ?_
  refine wk5 ?_
  exact fin
 ·cases h2:fineB B
  ·rw [h1] at f1
   rw [h2] at f2
   have c0:=sums_a
   refine acalls_of code_scrimtop_TopRises (by simp [fn_scrimtop_TopRises]) fun C hC => ?_
   refine wk5 ?_
   exact fin
  ·rw [h1] at f1
   rw [h2] at f2
   have tA:=fine_okT hA h1
   have tB:=fine_okT hB h2
   have hg:∀ a,a<18446744073709551616→covG l a<18446744073709551616:=fun a ha=>or_lt a l ha hl
   have tA':=tA.relab hg
   have tB':=tB.relab hg
   have p1:=prim_a f (d:=8) A B tA tB
   have p2:=prim_a f (d:=8) _ _ tA' tB'
   have hu:=upR_twoP (upA_cov l A) (upA_cov l B) f 8
   have oX:=okA_two f tA tB
   have oY:=okA_two f tA' tB'
   rw [← hu.1] at p2
   exact topRises_core f A B _ _ _ _ _ l hl f1 f2 (cover_a A l tA.okA hl) (cover_a B l tB.okA hl) p1 p2 oX oY hu.2
end Go.Proofs.YtnnipocjapblkaaGreat
