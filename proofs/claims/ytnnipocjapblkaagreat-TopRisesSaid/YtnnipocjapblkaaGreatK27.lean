/- Take and drop. -/
import Derived.Test.YtnnipocjapblkaaGreatK26
import Derived.Test.YtnnipocjapblkaaGreatK25
set_option maxRecDepth 10000
set_option maxHeartbeats 4000000
namespace Go.Proofs.YtnnipocjapblkaaGreat
set_option linter.unusedVariables false
open Go.RowKit
def updK (F b:List Int) (j:Nat):List Int:=F.take j++b.drop j
theorem updK_zero (F b:List Int):updK F b 0=b:=by simp [updK]
theorem updK_len {F b:List Int} (h:F.length≤b.length) {j:Nat} (hj:j≤F.length):(updK F b j).length=b.length:=by simp [updK]; omega
theorem updK_get {F b:List Int} (h:F.length≤b.length) {j:Nat} (hj:j<F.length):(updK F b j)[j]? = b[j]? := by
 rw [updK,List.getElem?_append_right (by simp; omega),List.length_take,Nat.min_eq_left (by omega),Nat.sub_self,List.getElem?_drop,Nat.add_zero]
theorem updK_set {F b:List Int} (h:F.length≤b.length) {j:Nat} {v:Int} (hv:F[j]? = some v):(updK F b j).set j v=updK F b (j+1):=by
 have hj:=(List.getElem?_eq_some_iff.1 hv).1
 obtain ⟨x,hx⟩:∃ x,b[j]? = some x:=⟨_,List.getElem?_eq_getElem (by omega)⟩
 rw [updK,updK,List.set_append_right _ _ (by simp; omega),takeA_snoc hv,dropA_cons hx,List.length_take,Nat.min_eq_left (by omega),Nat.sub_self,List.set_cons_zero,List.append_assoc]
 rfl
theorem updK_got {F b:List Int} (h:F.length≤b.length) {j:Nat} {v:Int} (hv:F[j]? = some v):(updK F b (j+1))[j]? = some v:=by
 have hj:=(List.getElem?_eq_some_iff.1 hv).1
 rw [updK,List.getElem?_append_left (by simp; omega),List.getElem?_take,if_pos (by omega)]; exact hv
theorem updK_same {F b:List Int} (h:F.length≤b.length) {j:Nat} {v:Int} (hv:F[j]? = some v) (hb:b[j]? = some v):updK F b j=updK F b (j+1):=by
 rw [← updK_set h hv]
 have hj:=(List.getElem?_eq_some_iff.1 hv).1
 have hg:(updK F b j)[j]? = some v:=(updK_get h hj).trans hb
 obtain ⟨hl,hg2⟩:=List.getElem?_eq_some_iff.1 hg
 conv=>lhs; rw [← List.set_getElem_self hl]
 rw [hg2]
def updE (F b:List Int):List Int:=F++b.drop F.length
theorem updK_end (F b:List Int):updK F b F.length=updE F b:=by simp [updK,updE]
def cutP (f g:Int→Int→Int) (N A:Arr):Arr × Int :=
 if (axP N A).2.2≠0 then (zA,(axP N A).2.2) else
 if (cnt (updE (List.zipWith f (axP N A).1 (axP N A).2.1) (axP N A).2.1)).2≠0 then (zA,(cnt (updE (List.zipWith f (axP N A).1 (axP N A).2.1) (axP N A).2.1)).2) else
 (.mk (A.s ||| totA N) (updE (List.zipWith f (axP N A).1 (axP N A).2.1) (axP N A).2.1)
  (seenL (updE (List.zipWith g (axP N A).1 (axP N A).2.1) (List.replicate (axP N A).2.1.length 0)) (updE (List.zipWith f (axP N A).1 (axP N A).2.1) (axP N A).2.1) (axP N A).2.1 A
   (cnt (updE (List.zipWith f (axP N A).1 (axP N A).2.1) (axP N A).2.1)).1.toNat),0)
def takS (k z:Int):Int:=greK k
def takG (k z:Int):Int:=if k<0 then z - greK k else 0
def drpS (k z:Int):Int:=z - min (greK k) z
def drpG (k z:Int):Int:=if k > 0 then min (greK k) z else 0
theorem intsF_rng:∀ {cs:List Cell} {l:List Int},intsF cs=some l→∀ z ∈ l,-9223372036854775808≤z∧z≤9223372036854775807
 | [],l,h,z,hz=>by simp only [intsF,Option.some.injEq] at h; subst h; simp at hz
 | c::cs,l,h,z,hz=>by
   rw [intsF] at h
   split at h
   ·rename_i y l' h1 h2
    simp only [Option.some.injEq] at h; subst h
    rcases List.mem_cons.1 hz with rfl|hz
    ·unfold intOf at h1
     split at h1
     ·split at h1
      ·simp only [Option.some.injEq] at h1
       rw [← h1]; unfold smallN
       split
       ·exact smallV_range _ _
       ·simp
      ·cases h1
     ·cases h1
    ·exact intsF_rng h2 z hz
   ·cases h
theorem intsR_rng (N:Arr):∀ z ∈ (intsR N).1,-9223372036854775808≤z∧z≤9223372036854775807:=by
 unfold intsR
 split
 ·simp
 ·split
  ·rename_i l hl; exact intsF_rng hl
  ·simp
theorem cnt_ones:∀ n:Nat,n≤6→cnt (List.replicate n 1)=(1,0)
 | 0,_=>rfl
 | 1,_=>rfl
 | 2,_=>rfl
 | 3,_=>rfl
 | 4,_=>rfl
 | 5,_=>rfl
 | 6,_=>rfl
 | n+7,h=>by omega
theorem axP_ok {N A:Arr} (kA:okJ A) (h:(axP N A).2.2=0):(axP N A).1.length≤(axP N A).2.1.length∧(cnt (axP N A).2.1).2=0∧prodL (axP N A).2.1=A.cells.length∧∀ z ∈ (axP N A).1,-9223372036854775808≤z∧z≤9223372036854775807:=by
 have hr:=intsR_rng N
 unfold axP at h ⊢
 split at h
 ·rename_i h1; exact absurd h h1
 ·rename_i h1
  rw [if_neg h1]
  split at h
  ·rename_i h2
   rw [if_pos h2]
   split at h
   ·cases h
   ·rename_i h3
    rw [if_neg h3]
    exact ⟨by dsimp only; omega,kA.e,kA.prod,hr⟩
  ·rename_i h2
   rw [if_neg h2]
   split at h
   ·cases h
   ·rename_i h3
    rw [if_neg h3]
    have hc:=cnt_ones (intsR N).1.length (by omega)
    have hs:A.shape=[]:=List.eq_nil_of_length_eq_zero (by omega)
    have hp:=kA.c
    rw [hs] at hp
    refine ⟨by simp,by dsimp only; rw [hc],?_,hr⟩
    dsimp only
    rw [← cnt_prod (by rw [hc]),hc]
    exact hp
theorem takG_rng {l s:List Int} (hs:Small s):∀ f ∈ updE (List.zipWith takG l s) (List.replicate s.length 0),-10000≤f∧f≤10000:=by
 intro f hf
 rcases List.mem_append.1 hf with h|h
 ·obtain ⟨j,hj⟩:=List.getElem?_of_mem h
  rw [List.getElem?_zipWith] at hj
  split at hj
  ·rename_i k z hk hz
   simp only [Option.some.injEq] at hj
   have:=hs z (List.mem_of_getElem? hz)
   have:=greK_rng k
   rw [← hj]; unfold takG; split<;>omega
  ·cases hj
 ·have:=List.mem_of_mem_drop h
  rw [(List.mem_replicate.1 this).2]; omega
theorem take_a (N A:Arr) (hN:arrOK N) (kN:okJ N) (kA:okJ A):ACalls Tryz.prog 24 [.agg (arrV N),.agg (arrV A)] (.tup [.agg (arrV (cutP takS takG N A).1),nA (cutP takS takG N A).2]):=by
 have hB:maxB=1000000000:=rfl
 have c0:=axes_a N A hN kN kA.len
 have hok := @axP_ok N A kA
 have hAs:=kA.ok.parts.1
 have hAl:=kA.cells
 unfold cutP
 generalize axP N A=x at c0 hok ⊢
 obtain ⟨l,s,e⟩:=x
 dsimp only at c0 hok ⊢
 by_cases h0:e=0
 ·subst h0
  rw [if_neg (show ¬ ((0:Int)≠0) from fun h=>h rfl)]
  obtain ⟨k1,k2,k3,k4⟩:=hok rfl
  clear hok
  have ls6:=cnt_len k2
  have sms:=cnt_small k2
  have hfr:=takG_rng (l:=l) sms
  by_cases hs0:s.length=0
  ·obtain rfl:=List.eq_nil_of_length_eq_zero hs0
   obtain rfl:l=[]:=List.eq_nil_of_length_eq_zero (by simpa using k1)
   have e1:updE (List.zipWith takS [] []) []=[]:=rfl
   have e2:updE (List.zipWith takG [] []) (List.replicate ([]:List Int).length 0)=[]:=rfl
   rw [e1,e2,cnt_nil,if_neg (show ¬ ((0:Int)≠0) from fun h=>h rfl)]
   have co:=open_a [] (by simp)
   have cc:=count_a []
   rw [cnt_nil] at cc
   have cs:=seen_a [] [] [] A 1 rfl rfl rfl (by simp) rfl k3 hAl
   have ct:=told_a N A [] (seenL [] [] [] A 1) kN.ok hAs
   rw [show ((1:Int),(0:Int)).1.toNat=1 from rfl]
   generalize seenL [] [] [] A 1=CS at cs ct ⊢
   refine acalls_defer code_cut_Take (by simp [fn_cut_Take]) idle_cut_Take fun C hC => ?_
   refine wk5 ?_
   intro ds
   refine wk5 ?_
   refine aw_loopB [2,3,4,5,6,7,8,26,27] [0,1,2,3,4] (fun j:Nat=>[(28,nA 0)]) (fun j=>[]) 5 (fun j=>True) (fun j=>j) 0 trivial ?_
   rintro j -
   dsimp only [List.cons_append,List.nil_append]
   refine wk5 ?_
   exact fin
  have ll:=intsA_len .i64 l
  have ls:=intsA_len .i64 s
  have hSl:(List.zipWith takS l s).length≤s.length:=by simp; omega
  have hGl:(List.zipWith takG l s).length≤(List.replicate s.length (0:Int)).length:=by simp; omega
  have hSn:(List.zipWith takS l s).length=l.length:=by simp; omega
  have hGn:(List.zipWith takG l s).length=l.length:=by simp; omega
  have hSa:∀ j k z,l[j]? = some k→s[j]? = some z→(List.zipWith takS l s)[j]? = some (takS k z):=fun j k z h1 h2=>by rw [List.getElem?_zipWith,h1,h2]
  have hGa:∀ j k z,l[j]? = some k→s[j]? = some z→(List.zipWith takG l s)[j]? = some (takG k z):=fun j k z h1 h2=>by rw [List.getElem?_zipWith,h1,h2]
  generalize List.zipWith takS l s=SF at *
  generalize List.zipWith takG l s=GF at *
  have hEl:(updE GF (List.replicate s.length 0)).length=(updE SF s).length:=by simp [updE]; omega
  have cc:=count_a (updE SF s)
  have co:=open_m s (by omega) ls6
  have hcz := @cnt_le (updE SF s)
  have seen:(cnt (updE SF s)).2=0→ACalls Tryz.prog 77 [.agg [.sl 1 (intsA .i64 (updE GF (List.replicate s.length 0))),.sl 1 (intsA .i64 (updE SF s))],.agg (arrV A),.sl 1 (intsA .i64 s),nA (cnt (updE SF s)).1] (.sl 7 ((seenL (updE GF (List.replicate s.length 0)) (updE SF s) s A (cnt (updE SF s)).1.toNat).map cellR)):=fun h=>by
   have:=seen_a (updE GF (List.replicate s.length 0)) (updE SF s) s A (cnt (updE SF s)).1.toNat h (by omega) hEl hfr k2 k3 hAl
   rw [Int.toNat_of_nonneg hcz.1] at this
   exact this
  have told:∀ CS:List Cell,ACalls Tryz.prog 76 [.agg (arrV N),.agg (arrV A),.sl 1 (intsA .i64 (updE SF s)),.sl 7 (CS.map cellR)] (.agg (arrV (.mk (A.s ||| totA N) (updE SF s) CS))):=fun CS=>told_a N A (updE SF s) CS kN.ok hAs
  generalize hL:seenL (updE GF (List.replicate s.length 0)) (updE SF s) s A (cnt (updE SF s)).1.toNat=L at seen ⊢
  generalize cnt (updE SF s)=w at cc seen hcz ⊢
  obtain ⟨n,e⟩:=w
  dsimp only at cc seen hcz ⊢
  refine acalls_defer code_cut_Take (by simp [fn_cut_Take]) idle_cut_Take fun C hC => ?_
  refine wk5 ?_
  intro ds
  refine wk5 ?_
  refine r_callN2 [] co ?_
  refine rrun5 ?_
  refine rg_nil ⟨rfl,?_⟩
  refine wk5 ?_
  refine aw_loopB [2,3,4,5,6,7,8,26,27] [0,1,2,3,6] (fun j:Nat=>[(28,nA j)])
   (fun j=>[(4,some ⟨true,false,3,1,intsA .i64 (updK GF (List.replicate s.length 0) j)⟩),(5,some ⟨true,false,3,1,intsA .i64 (updK SF s j)⟩)]) 7
   (fun j=>j≤l.length) (fun j=>l.length - j) 0 (Nat.zero_le _) ?_ (hh:=by rw [updK_zero,updK_zero]; rfl)
  intro j hj
  dsimp only [List.cons_append,List.nil_append] at hj ⊢
  have lS:=intsA_len .i64 (updK SF s j)
  rw [updK_len hSl (by omega)] at lS
  have lG:=intsA_len .i64 (updK GF (List.replicate s.length 0) j)
  rw [updK_len hGl (by omega),List.length_replicate] at lG
  by_cases hlt:j<l.length
  ·obtain ⟨k,hk⟩:∃ k,l[j]? = some k:=⟨_,List.getElem?_eq_getElem hlt⟩
   obtain ⟨z,hz⟩:∃ z,s[j]? = some z:=⟨_,List.getElem?_eq_getElem (by omega)⟩
   have hkr:=k4 k (List.mem_of_getElem? hk)
   have hzr:=sms z (List.mem_of_getElem? hz)
   have hkk:=int_at (k:=.i64) hk
   have hzk:=int_at (k:=.i64) hz
   have hS:=hSa j k z hk hz
   have hG:=hGa j k z hk hz
   have hz0:(List.replicate s.length (0:Int))[j]? = some 0:=by rw [List.getElem?_replicate,if_pos (by omega)]
   have c1:=cgreat_a k hkr.1 hkr.2
   have hgr:=greK_rng k
   have set1:(intsA .i64 (updK SF s j)).set j [.lit (.int .i64 (takS k z))]=intsA .i64 (updK SF s (j+1)):=by rw [← updK_set hSl hS]; simp [intsA,List.map_set]
   have got1:=int_at (k:=.i64) (updK_got hSl hS)
   have old1:=int_at (k:=.i64) ((updK_get hSl (by omega:j<SF.length)).trans hz)
   have old2:=int_at (k:=.i64) ((updK_get hGl (by omega:j<GF.length)).trans hz0)
   clear cc seen told co
   by_cases hk0:k<0
   ·rw [show takG k z=z - greK k from if_pos hk0] at hG
    have set2:(intsA .i64 (updK GF (List.replicate s.length 0) j)).set j [.lit (.int .i64 (z - greK k))]=intsA .i64 (updK GF (List.replicate s.length 0) (j+1)):=by rw [← updK_set hGl hG]; simp [intsA,List.map_set]
    rw [show takS k z=greK k from rfl] at set1 got1
    rw [← set1] at got1
    clear c0 hS hG
    generalize greK k=q at *
    refine wk5 ?_
    exact ⟨j+1,by omega,by omega,wkR hC.m [] (by rw [← set1,← set2]; rfl)⟩
   ·rw [show takG k z=0 from if_neg hk0] at hG
    have same:=updK_same hGl hG hz0
    rw [show takS k z=greK k from rfl] at set1 got1
    clear c0 hS hG
    refine wk5 ?_
    exact ⟨j+1,by omega,by omega,wkR hC.m [] (by rw [← set1,← same]; rfl)⟩
  ·obtain rfl:j=l.length:=by omega
   have eS:updK SF s l.length=updE SF s:=by rw [← hSn,updK_end]
   have eG:updK GF (List.replicate s.length 0) l.length=updE GF (List.replicate s.length 0):=by rw [← hGn,updK_end]
   rw [eS] at lS
   rw [eG] at lG
   rw [eS,eG]
   clear co
   refine aw_freeze 4 rfl ?_
   refine aw_freeze 5 rfl ?_
   by_cases he:e=0
   ·subst he
    have c2:=seen rfl
    have c3:=told L
    rw [if_neg (show ¬ ((0:Int)≠0) from fun h=>h rfl)]
    refine wk5 ?_
    exact fin
   ·rw [if_pos he]
    refine wk5 ?_
    exact fin
 ·rw [if_pos h0]
  refine acalls_defer code_cut_Take (by simp [fn_cut_Take]) idle_cut_Take fun C hC => ?_
  refine wk5 ?_
  intro ds
  refine wk5 ?_
  exact fin
theorem drpG_rng {l s:List Int} (hs:Small s):∀ f ∈ updE (List.zipWith drpG l s) (List.replicate s.length 0),-10000≤f∧f≤10000:=by
 intro f hf
 rcases List.mem_append.1 hf with h|h
 ·obtain ⟨j,hj⟩:=List.getElem?_of_mem h
  rw [List.getElem?_zipWith] at hj
  split at hj
  ·rename_i k z hk hz
   simp only [Option.some.injEq] at hj
   have:=hs z (List.mem_of_getElem? hz)
   have:=greK_rng k
   rw [← hj]; unfold drpG; split<;>omega
  ·cases hj
 ·have:=List.mem_of_mem_drop h
  rw [(List.mem_replicate.1 this).2]; omega
theorem drop_a (N A:Arr) (hN:arrOK N) (kN:okJ N) (kA:okJ A):ACalls Tryz.prog 25 [.agg (arrV N),.agg (arrV A)] (.tup [.agg (arrV (cutP drpS drpG N A).1),nA (cutP drpS drpG N A).2]):=by
 have hB:maxB=1000000000:=rfl
 have c0:=axes_a N A hN kN kA.len
 have hok := @axP_ok N A kA
 have hAs:=kA.ok.parts.1
 have hAl:=kA.cells
 unfold cutP
 generalize axP N A=x at c0 hok ⊢
 obtain ⟨l,s,e⟩:=x
 dsimp only at c0 hok ⊢
 by_cases h0:e=0
 ·subst h0
  rw [if_neg (show ¬ ((0:Int)≠0) from fun h=>h rfl)]
  obtain ⟨k1,k2,k3,k4⟩:=hok rfl
  clear hok
  have ls6:=cnt_len k2
  have sms:=cnt_small k2
  have hfr:=drpG_rng (l:=l) sms
  by_cases hs0:s.length=0
  ·obtain rfl:=List.eq_nil_of_length_eq_zero hs0
   obtain rfl:l=[]:=List.eq_nil_of_length_eq_zero (by simpa using k1)
   have e1:updE (List.zipWith drpS [] []) []=[]:=rfl
   have e2:updE (List.zipWith drpG [] []) (List.replicate ([]:List Int).length 0)=[]:=rfl
   rw [e1,e2,cnt_nil,if_neg (show ¬ ((0:Int)≠0) from fun h=>h rfl)]
   have co:=open_a [] (by simp)
   have cc:=count_a []
   rw [cnt_nil] at cc
   have cs:=seen_a [] [] [] A 1 rfl rfl rfl (by simp) rfl k3 hAl
   have ct:=told_a N A [] (seenL [] [] [] A 1) kN.ok hAs
   rw [show ((1:Int),(0:Int)).1.toNat=1 from rfl]
   generalize seenL [] [] [] A 1=CS at cs ct ⊢
   refine acalls_defer code_cut_Drop (by simp [fn_cut_Drop]) idle_cut_Drop fun C hC => ?_
   refine wk5 ?_
   intro ds
   refine wk5 ?_
   refine aw_loopB [2,3,4,5,6,7,8,27,28] [0,1,2,3,4] (fun j:Nat=>[(29,nA 0)]) (fun j=>[]) 5 (fun j=>True) (fun j=>j) 0 trivial ?_
   rintro j -
   dsimp only [List.cons_append,List.nil_append]
   refine wk5 ?_
   exact fin
  have ll:=intsA_len .i64 l
  have ls:=intsA_len .i64 s
  have hSl:(List.zipWith drpS l s).length≤s.length:=by simp; omega
  have hGl:(List.zipWith drpG l s).length≤(List.replicate s.length (0:Int)).length:=by simp; omega
  have hSn:(List.zipWith drpS l s).length=l.length:=by simp; omega
  have hGn:(List.zipWith drpG l s).length=l.length:=by simp; omega
  have hSa:∀ j k z,l[j]? = some k→s[j]? = some z→(List.zipWith drpS l s)[j]? = some (drpS k z):=fun j k z h1 h2=>by rw [List.getElem?_zipWith,h1,h2]
  have hGa:∀ j k z,l[j]? = some k→s[j]? = some z→(List.zipWith drpG l s)[j]? = some (drpG k z):=fun j k z h1 h2=>by rw [List.getElem?_zipWith,h1,h2]
  generalize List.zipWith drpS l s=SF at *
  generalize List.zipWith drpG l s=GF at *
  have hEl:(updE GF (List.replicate s.length 0)).length=(updE SF s).length:=by simp [updE]; omega
  have cc:=count_a (updE SF s)
  have co:=open_m s (by omega) ls6
  have hcz := @cnt_le (updE SF s)
  have seen:(cnt (updE SF s)).2=0→ACalls Tryz.prog 77 [.agg [.sl 1 (intsA .i64 (updE GF (List.replicate s.length 0))),.sl 1 (intsA .i64 (updE SF s))],.agg (arrV A),.sl 1 (intsA .i64 s),nA (cnt (updE SF s)).1] (.sl 7 ((seenL (updE GF (List.replicate s.length 0)) (updE SF s) s A (cnt (updE SF s)).1.toNat).map cellR)):=fun h=>by
   have:=seen_a (updE GF (List.replicate s.length 0)) (updE SF s) s A (cnt (updE SF s)).1.toNat h (by omega) hEl hfr k2 k3 hAl
   rw [Int.toNat_of_nonneg hcz.1] at this
   exact this
  have told:∀ CS:List Cell,ACalls Tryz.prog 76 [.agg (arrV N),.agg (arrV A),.sl 1 (intsA .i64 (updE SF s)),.sl 7 (CS.map cellR)] (.agg (arrV (.mk (A.s ||| totA N) (updE SF s) CS))):=fun CS=>told_a N A (updE SF s) CS kN.ok hAs
  generalize hL:seenL (updE GF (List.replicate s.length 0)) (updE SF s) s A (cnt (updE SF s)).1.toNat=L at seen ⊢
  generalize cnt (updE SF s)=w at cc seen hcz ⊢
  obtain ⟨n,e⟩:=w
  dsimp only at cc seen hcz ⊢
  refine acalls_defer code_cut_Drop (by simp [fn_cut_Drop]) idle_cut_Drop fun C hC => ?_
  refine wk5 ?_
  intro ds
  refine wk5 ?_
  refine r_callN2 [] co ?_
  refine rrun5 ?_
  refine rg_nil ⟨rfl,?_⟩
  refine wk5 ?_
  refine aw_loopB [2,3,4,5,6,7,8,27,28] [0,1,2,3,6] (fun j:Nat=>[(29,nA j)])
   (fun j=>[(4,some ⟨true,false,3,1,intsA .i64 (updK GF (List.replicate s.length 0) j)⟩),(5,some ⟨true,false,3,1,intsA .i64 (updK SF s j)⟩)]) 7
   (fun j=>j≤l.length) (fun j=>l.length - j) 0 (Nat.zero_le _) ?_ (hh:=by rw [updK_zero,updK_zero]; rfl)
  intro j hj
  dsimp only [List.cons_append,List.nil_append] at hj ⊢
  have lS:=intsA_len .i64 (updK SF s j)
  rw [updK_len hSl (by omega)] at lS
  have lG:=intsA_len .i64 (updK GF (List.replicate s.length 0) j)
  rw [updK_len hGl (by omega),List.length_replicate] at lG
  by_cases hlt:j<l.length
  ·obtain ⟨k,hk⟩:∃ k,l[j]? = some k:=⟨_,List.getElem?_eq_getElem hlt⟩
   obtain ⟨z,hz⟩:∃ z,s[j]? = some z:=⟨_,List.getElem?_eq_getElem (by omega)⟩
   have hkr:=k4 k (List.mem_of_getElem? hk)
   have hzr:=sms z (List.mem_of_getElem? hz)
   have hkk:=int_at (k:=.i64) hk
   have hzk:=int_at (k:=.i64) hz
   have hS:=hSa j k z hk hz
   have hG:=hGa j k z hk hz
   have hz0:(List.replicate s.length (0:Int))[j]? = some 0:=by rw [List.getElem?_replicate,if_pos (by omega)]
   have c1:=cgreat_a k hkr.1 hkr.2
   have hgr:=greK_rng k
   have set1:(intsA .i64 (updK SF s j)).set j [.lit (.int .i64 (drpS k z))]=intsA .i64 (updK SF s (j+1)):=by rw [← updK_set hSl hS]; simp [intsA,List.map_set]
   have got1:=int_at (k:=.i64) (updK_got hSl hS)
   have old1:=int_at (k:=.i64) ((updK_get hSl (by omega:j<SF.length)).trans hz)
   have old2:=int_at (k:=.i64) ((updK_get hGl (by omega:j<GF.length)).trans hz0)
   clear cc seen told co
   rw [show drpS k z=z - min (greK k) z from rfl] at set1
   by_cases hk0:k > 0
   ·rw [show drpG k z=min (greK k) z from if_pos hk0] at hG
    have set2:(intsA .i64 (updK GF (List.replicate s.length 0) j)).set j [.lit (.int .i64 (min (greK k) z))]=intsA .i64 (updK GF (List.replicate s.length 0) (j+1)):=by rw [← updK_set hGl hG]; simp [intsA,List.map_set]
    have hmn:(greK k≤z∧min (greK k) z=greK k)∨(z<greK k∧min (greK k) z=z):=by omega
    clear c0 hS hG
    generalize greK k=q at *
    generalize min q z=mn at *
    refine wk5 ?_
    refine r_minC (a:=q) (b:=z) mn hmn ?_
    refine rrun5 ?_
    refine rg_nil ⟨rfl,?_⟩
    refine wk5 ?_
    exact ⟨j+1,by omega,by omega,wkR hC.m [] (by rw [← set1,← set2]; rfl)⟩
   ·rw [show drpG k z=0 from if_neg hk0] at hG
    have same:=updK_same hGl hG hz0
    have hmn:(greK k≤z∧min (greK k) z=greK k)∨(z<greK k∧min (greK k) z=z):=by omega
    clear c0 hS hG
    generalize greK k=q at *
    generalize min q z=mn at *
    refine wk5 ?_
    refine r_minC (a:=q) (b:=z) mn hmn ?_
    refine rrun5 ?_
    refine rg_nil ⟨rfl,?_⟩
    refine wk5 ?_
    exact ⟨j+1,by omega,by omega,wkR hC.m [] (by rw [← set1,← same]; rfl)⟩
  ·obtain rfl:j=l.length:=by omega
   have eS:updK SF s l.length=updE SF s:=by rw [← hSn,updK_end]
   have eG:updK GF (List.replicate s.length 0) l.length=updE GF (List.replicate s.length 0):=by rw [← hGn,updK_end]
   rw [eS] at lS
   rw [eG] at lG
   rw [eS,eG]
   clear co
   refine aw_freeze 4 rfl ?_
   refine aw_freeze 5 rfl ?_
   by_cases he:e=0
   ·subst he
    have c2:=seen rfl
    have c3:=told L
    rw [if_neg (show ¬ ((0:Int)≠0) from fun h=>h rfl)]
    refine wk5 ?_
    exact fin
   ·rw [if_pos he]
    refine wk5 ?_
    exact fin
 ·rw [if_pos h0]
  refine acalls_defer code_cut_Drop (by simp [fn_cut_Drop]) idle_cut_Drop fun C hC => ?_
  refine wk5 ?_
  intro ds
  refine wk5 ?_
  exact fin
end Go.Proofs.YtnnipocjapblkaaGreat
