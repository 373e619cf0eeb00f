/- The number that cells have that are the same: find.mix, find.mark. -/
import Derived.Test.YtnnipocjapblkaaGreatK07
import Derived.Test.YtnnipocjapblkaaGreatK17
import Derived.Test.YtnnipocjapblkaaGreatK04
import Derived.Test.YtnnipocjapblkaaGreatK05
set_option maxRecDepth 10000
set_option maxHeartbeats 4000000
namespace Go.Proofs.YtnnipocjapblkaaGreat
set_option linter.unusedVariables false
open Go.RowKit
def wU (z:Int):Int:=IntKind.u64.wrap z
theorem wU_rng (z:Int):0≤wU z∧wU z<18446744073709551616:=by
 have h:wU z=z % 18446744073709551616:=rfl
 omega
def xorU (a b:Int):Int:=wU (BitVec.ofInt 64 a ^^^ BitVec.ofInt 64 b).toNat
def mixF (k n:Int):Int:=xorU (wU (xorU k n * 11400714819323198485)) (wU (xorU k n * 11400714819323198485) / 536870912)
theorem mixF_rng (k n:Int):0≤mixF k n∧mixF k n<18446744073709551616:=wU_rng _
theorem mix_a (k n:Int):ACalls Tryz.prog 189 [.lit (.int .u64 k),.lit (.int .u64 n)] (.lit (.int .u64 (mixF k n))):=by
 have h1:absInt .xor .u64 k n=some (.int .u64 (xorU k n)):=rfl
 have h2:absInt .mul .u64 (xorU k n) 11400714819323198485=some (.int .u64 (wU (xorU k n * 11400714819323198485))):=rfl
 have h3:(2:Int) ^ (min (29:Int).toNat IntKind.u64.bits)=536870912:=rfl
 have h4:absInt .xor .u64 (wU (xorU k n * 11400714819323198485)) (wU (xorU k n * 11400714819323198485) / 536870912)=some (.int .u64 (mixF k n)):=rfl
 generalize mixF k n=r at h4 ⊢
 generalize wU (xorU k n * 11400714819323198485)=y at h2 h4
 generalize xorU k n=x at h1 h2
 refine acalls_of code_find_mix (by simp [fn_find_mix]) fun C hC => ?_
 refine wk5 ?_
 exact fin
def mixL (k:Int):List Int→Int
 | []=>k
 | z::zs=>mixL (mixF k (wU z)) zs
theorem mixL_at {zs:List Int} {j:Nat} {z:Int} (h:zs[j]? = some z) (k:Int):mixL k (zs.drop j)=mixL (mixF k (wU z)) (zs.drop (j+1)):=by
 rw [dropA_cons h,mixL]
def headM (k kd ch:Int) (neg:Bool):Int:=if neg then mixF (mixF (mixF k (wU kd)) (wU ch)) 1 else mixF (mixF k (wU kd)) (wU ch)
mutual
def markA (k:Int):Arr→Int
 | .mk _ sh cs=>markCs (mixL k sh) cs
def markCs (k:Int):List Cell→Int
 | []=>k
 | c::cs=>markCs (markC k c) cs
def markC (k:Int):Cell→Int
 | .mk _ kd n ch ins=>markAs (mixL (mixL (headM k kd ch n.neg) n.top) n.bot) ins
def markAs (k:Int):List Arr→Int
 | []=>k
 | a::xs=>markAs (markA k a) xs
end
theorem markA_eq (k:Int) (A:Arr):markA k A=markCs (mixL k A.shape) A.cells:=by cases A; rw [markA]; rfl
theorem markC_eq (k:Int) (c:Cell):markC k c=markAs (mixL (mixL (headM k c.kind c.c c.n.neg) c.n.top) c.n.bot) c.ins:=by cases c; rw [markC]; rfl
theorem markCs_at {cs:List Cell} {j:Nat} {c:Cell} (h:cs[j]? = some c) (k:Int):markCs k (cs.drop j)=markCs (markC k c) (cs.drop (j+1)):=by
 rw [dropA_cons h,markCs]
theorem markAs_at {xs:List Arr} {j:Nat} {a:Arr} (h:xs[j]? = some a) (k:Int):markAs k (xs.drop j)=markAs (markCs (mixL k a.shape) a.cells) (xs.drop (j+1)):=by
 rw [dropA_cons h,markAs,markA_eq]
theorem mixL_rng:∀ (zs:List Int) (k:Int),0≤k∧k<18446744073709551616→0≤mixL k zs∧mixL k zs<18446744073709551616
 | [],k,h=>h
 | z::zs,k,h=>mixL_rng zs _ (mixF_rng _ _)
theorem headM_rng (k kd ch:Int) (g:Bool):0≤headM k kd ch g∧headM k kd ch g<18446744073709551616:=by
 unfold headM; split<;>exact mixF_rng _ _
mutual
theorem markA_rng:∀ (A:Arr) (k:Int),0≤k∧k<18446744073709551616→0≤markA k A∧markA k A<18446744073709551616
 | .mk s sh cs,k,h=>by rw [markA]; exact markCs_rng cs _ (mixL_rng sh k h)
theorem markCs_rng:∀ (cs:List Cell) (k:Int),0≤k∧k<18446744073709551616→0≤markCs k cs∧markCs k cs<18446744073709551616
 | [],k,h=>by rw [markCs]; exact h
 | c::cs,k,h=>by rw [markCs]; exact markCs_rng cs _ (markC_rng c k h)
theorem markC_rng:∀ (c:Cell) (k:Int),0≤k∧k<18446744073709551616→0≤markC k c∧markC k c<18446744073709551616
 | .mk l kd n ch ins,k,h=>by rw [markC]; exact markAs_rng ins _ (mixL_rng _ _ (mixL_rng _ _ (headM_rng ..)))
theorem markAs_rng:∀ (xs:List Arr) (k:Int),0≤k∧k<18446744073709551616→0≤markAs k xs∧markAs k xs<18446744073709551616
 | [],k,h=>by rw [markAs]; exact h
 | a::xs,k,h=>by rw [markAs]; exact markAs_rng xs _ (markA_rng a k h)
end
mutual
theorem markA_eqv:∀ (A B:Arr) (k:Int),eqvA false A B=true→markA k A=markA k B
 | .mk s sh cs,.mk s' sh' cs',k,h=>by
   rw [eqvA,Bool.and_eq_true,Bool.and_eq_true] at h
   obtain ⟨_,h1,h2⟩:=h
   obtain rfl:sh=sh':=eq_of_beq h1
   rw [markA,markA]; exact markCs_eqv cs cs' _ h2
theorem markCs_eqv:∀ (cs ds:List Cell) (k:Int),eqvCs false cs ds=true→markCs k cs=markCs k ds
 | [],[],_,_=>rfl
 | c::cs,d::ds,k,h=>by
   rw [eqvCs,Bool.and_eq_true] at h
   rw [markCs,markCs,markC_eqv c d k h.1]; exact markCs_eqv cs ds _ h.2
 | [],_::_,_,h=>by simp [eqvCs] at h
 | _::_,[],_,h=>by simp [eqvCs] at h
theorem markC_eqv:∀ (c d:Cell) (k:Int),eqvC false c d=true→markC k c=markC k d
 | .mk a kd n ch ins,.mk a' kd' n' ch' ins',k,h=>by
   rw [eqvC,Bool.and_eq_true,Bool.and_eq_true,Bool.and_eq_true,Bool.and_eq_true] at h
   obtain ⟨_,h1,h2,h3,h4⟩:=h
   obtain rfl:kd=kd':=eq_of_beq h1
   obtain rfl:ch=ch':=eq_of_beq h2
   obtain rfl:n=n':=(numP_iff _ _).1 h3
   rw [markC,markC]; exact markAs_eqv ins ins' _ h4
theorem markAs_eqv:∀ (xs ys:List Arr) (k:Int),eqvAs false xs ys=true→markAs k xs=markAs k ys
 | [],[],_,_=>rfl
 | a::xs,b::ys,k,h=>by
   rw [eqvAs,Bool.and_eq_true] at h
   rw [markAs,markAs,markA_eqv a b k h.1]; exact markAs_eqv xs ys _ h.2
 | [],_::_,_,h=>by simp [eqvAs] at h
 | _::_,[],_,h=>by simp [eqvAs] at h
end
theorem mark_a:∀ (c:Cell) (k:Int),okC c→0≤k∧k<18446744073709551616→ACalls Tryz.prog 159 [.lit (.int .u64 k),.agg (cellV c)] (.lit (.int .u64 (markC k c)))
 | .mk l kd ⟨neg,top,bot⟩ ch ins,k,hc,hk=>by
   have hB:maxB=1000000000:=rfl
   obtain ⟨b1,b2,b3,b4,b5⟩:=hc.parts
   dsimp only [Cell.l,Cell.n,Cell.ins] at b1 b2 b3 b4 b5
   have ltop:=intsA_len .u32 top
   have lbot:=intsA_len .u32 bot
   have lin:((ins.map arrR).length:Int)=ins.length:=by simp
   have hE0:=markC_eq k (.mk l kd ⟨neg,top,bot⟩ ch ins)
   generalize markC k (.mk l kd ⟨neg,top,bot⟩ ch ins)=R at hE0 ⊢
   dsimp only [Cell.kind,Cell.c,Cell.n,Cell.ins] at hE0
   have w1:IntKind.u64.wrap kd=wU kd:=rfl
   have w2:IntKind.u64.wrap ch=wU ch:=rfl
   have c1:=mix_a k (wU kd)
   have c2:=mix_a (mixF k (wU kd)) (wU ch)
   have c3:=mix_a (mixF (mixF k (wU kd)) (wU ch)) 1
   have hhd:headM k kd ch neg=if neg then mixF (mixF (mixF k (wU kd)) (wU ch)) 1 else mixF (mixF k (wU kd)) (wU ch):=rfl
   have hr0:=headM_rng k kd ch neg
   generalize headM k kd ch neg=K1 at hhd hE0 hr0
   obtain ⟨K2,hK2⟩:∃ K2,mixL K1 top=K2:=⟨_,rfl⟩
   obtain ⟨K3,hK3⟩:∃ K3,mixL K2 bot=K3:=⟨_,rfl⟩
   have hr3:0≤K3∧K3<18446744073709551616:=hK3 ▸ mixL_rng _ _ (hK2 ▸ mixL_rng _ _ hr0)
   rw [hK2,hK3] at hE0
   generalize mixF (mixF k (wU kd)) (wU ch)=M2 at c2 c3 hhd
   refine acalls_of code_find_mark (by simp [fn_find_mark]) fun C hC => ?_
   rw [show cellV (.mk l kd ⟨neg,top,bot⟩ ch ins)=[.lit (.int .u64 l),.lit (.int .i64 kd),.lit (.bool neg),.sl 1 (intsA .u32 top),.sl 1 (intsA .u32 bot),.lit (.int .i64 ch),.sl 3 (ins.map arrR)] from rfl]
   cases neg
   all_goals
    simp only [Bool.false_eq_true,if_true,if_false] at hhd
    first
     | (generalize mixF M2 1=M3 at c3 hhd; subst hhd)
     | subst hhd
    refine wk5 ?_
    clear c1 c2 c3 w1 w2
    refine aw_loopB [3,31,32] [0] (fun p:Nat × Int=>[(0,.lit (.int .u64 p.2)),(33,.lit (.int .i64 p.1))]) (fun _=>[]) 1
     (fun p=>p.1≤top.length∧(0≤p.2∧p.2<18446744073709551616)∧K2=mixL p.2 (top.drop p.1)) (fun p=>top.length - p.1) (0,_) ⟨Nat.zero_le _,hr0,hK2.symm⟩ ?_
    rintro ⟨j,q⟩ ⟨hj,hq,hE⟩
    dsimp only [List.cons_append,List.nil_append] at hj hq hE ⊢
    by_cases hlt:j<top.length
    ·obtain ⟨z,hz⟩:∃ z,top[j]? = some z:=⟨_,List.getElem?_eq_getElem hlt⟩
     have hzk:=int_at (k:=.u32) hz
     rw [mixL_at hz] at hE
     have w1:IntKind.u64.wrap z=wU z:=rfl
     have c1:=mix_a q (wU z)
     refine wk5 ?_
     exact ⟨(j+1,mixF q (wU z)),by simp only; omega,⟨by simp only; omega,mixF_rng _ _,hE⟩,wkR hC.m []⟩
    rw [List.drop_eq_nil_of_le (by omega),mixL] at hE
    subst hE
    refine wk5 ?_
    clear hj hlt hK2
    refine aw_loopB [3,44,45] [0] (fun p:Nat × Int=>[(0,.lit (.int .u64 p.2)),(46,.lit (.int .i64 p.1))]) (fun _=>[]) 1
     (fun p=>p.1≤bot.length∧(0≤p.2∧p.2<18446744073709551616)∧K3=mixL p.2 (bot.drop p.1)) (fun p=>bot.length - p.1) (0,_) ⟨Nat.zero_le _,hq,hK3.symm⟩ ?_
    rintro ⟨j,q⟩ ⟨hj,hq,hE⟩
    dsimp only [List.cons_append,List.nil_append] at hj hq hE ⊢
    by_cases hlt:j<bot.length
    ·obtain ⟨z,hz⟩:∃ z,bot[j]? = some z:=⟨_,List.getElem?_eq_getElem hlt⟩
     have hzk:=int_at (k:=.u32) hz
     rw [mixL_at hz] at hE
     have w1:IntKind.u64.wrap z=wU z:=rfl
     have c1:=mix_a q (wU z)
     refine wk5 ?_
     exact ⟨(j+1,mixF q (wU z)),by simp only; omega,⟨by simp only; omega,mixF_rng _ _,hE⟩,wkR hC.m []⟩
    rw [List.drop_eq_nil_of_le (by omega),mixL] at hE
    subst hE
    refine wk5 ?_
    clear hj hlt hK3
    refine aw_loopB [3,56,57] [0] (fun p:Nat × Int=>[(0,.lit (.int .u64 p.2)),(58,.lit (.int .i64 p.1))]) (fun _=>[]) 1
     (fun p=>p.1≤ins.length∧(0≤p.2∧p.2<18446744073709551616)∧R=markAs p.2 (ins.drop p.1)) (fun p=>ins.length - p.1) (0,_) ⟨Nat.zero_le _,hr3,hE0⟩ ?_
    rintro ⟨j,q⟩ ⟨hj,hq,hE⟩
    dsimp only [List.cons_append,List.nil_append] at hj hq hE ⊢
    by_cases hlt:j<ins.length
    ·obtain ⟨a,ha⟩:∃ a,ins[j]? = some a:=⟨_,List.getElem?_eq_getElem hlt⟩
     have hak:=arr_at ha
     have ham:=List.mem_of_getElem? ha
     have haok:=okAs_mem.1 b5 a ham
     obtain ⟨a1,a2,a3,a4⟩:=haok.parts
     have hts:=arr_size ham
     rw [markAs_at ha] at hE
     have lsh:=intsA_len .i64 a.shape
     have lcs:=cells_len a
     have hsa:=Arr.size a
     obtain ⟨K4,hK4⟩:∃ K4,mixL q a.shape=K4:=⟨_,rfl⟩
     have hr4:0≤K4∧K4<18446744073709551616:=hK4 ▸ mixL_rng _ _ hq
     rw [hK4] at hE
     refine wk5 ?_
     refine aw_loopB [3,56,57,58,10,63,64] [0,1] (fun p:Nat × Int=>[(0,.lit (.int .u64 p.2)),(65,.lit (.int .i64 p.1))]) (fun _=>[]) 2
      (fun p=>p.1≤a.shape.length∧(0≤p.2∧p.2<18446744073709551616)∧K4=mixL p.2 (a.shape.drop p.1)) (fun p=>a.shape.length - p.1) (0,_) ⟨Nat.zero_le _,hq,hK4.symm⟩ ?_
     rintro ⟨i,r⟩ ⟨hi,hr,hF⟩
     dsimp only [List.cons_append,List.nil_append] at hi hr hF ⊢
     by_cases hlt2:i<a.shape.length
     ·obtain ⟨z,hz⟩:∃ z,a.shape[i]? = some z:=⟨_,List.getElem?_eq_getElem hlt2⟩
      have hzk:=int_at (k:=.i64) hz
      rw [mixL_at hz] at hF
      have w1:IntKind.u64.wrap z=wU z:=rfl
      have c1:=mix_a r (wU z)
      refine wk5 ?_
      exact ⟨(i+1,mixF r (wU z)),by simp only; omega,⟨by simp only; omega,mixF_rng _ _,hF⟩,wkR hC.m []⟩
     rw [List.drop_eq_nil_of_le (by omega),mixL] at hF
     subst hF
     refine wk5 ?_
     clear hi hlt2 hK4
     refine aw_loopB [3,56,57,58,75,76] [0] (fun p:Nat × Int=>[(0,.lit (.int .u64 p.2)),(77,.lit (.int .i64 p.1))]) (fun _=>[]) 2
      (fun p=>p.1≤a.cells.length∧(0≤p.2∧p.2<18446744073709551616)∧R=markAs (markCs p.2 (a.cells.drop p.1)) (ins.drop (j+1))) (fun p=>a.cells.length - p.1) (0,_) ⟨Nat.zero_le _,hr4,hE⟩ ?_
     rintro ⟨i,r⟩ ⟨hi,hr,hF⟩
     dsimp only [List.cons_append,List.nil_append] at hi hr hF ⊢
     by_cases hlt2:i<a.cells.length
     ·obtain ⟨d,hd⟩:∃ d,a.cells[i]? = some d:=⟨_,List.getElem?_eq_getElem hlt2⟩
      have hdk:=cell_at hd
      have hdm:=List.mem_of_getElem? hd
      have hdo:=okCs_mem.1 a4 d hdm
      rw [markCs_at hd] at hF
      have ht:SizeOf.sizeOf d<SizeOf.sizeOf ins:=Nat.lt_trans (cell_size hdm) (Nat.lt_trans hsa hts)
      have c1:=mark_a d r hdo hr
      refine wk5 ?_
      exact ⟨(i+1,markC r d),by simp only; omega,⟨by simp only; omega,markC_rng _ _ hr,hF⟩,wkR hC.m []⟩
     rw [List.drop_eq_nil_of_le (by omega),markCs] at hF
     refine wk5 ?_
     exact ⟨(j+1,r),by simp only; omega,⟨by simp only; omega,hr,hF⟩,wkR hC.m []⟩
    rw [List.drop_eq_nil_of_le (by omega),markAs] at hE
    subst hE
    refine wk5 ?_
    exact fin
 termination_by c=>SizeOf.sizeOf c
 decreasing_by all_goals (simp only [Cell.mk.sizeOf_spec]; omega)
end Go.Proofs.YtnnipocjapblkaaGreat
