/- Machine numbers as the reference writes them. -/
import Derived.Test.YtnnipocjapblkaaGreatK05
import Derived.Test.YtnnipocjapblkaaGreatK07
import Derived.Test.YtnnipocjapblkaaGreatK04
import Derived.Test.YtnnipocjapblkaaGreatK06
set_option maxRecDepth 10000
set_option maxHeartbeats 4000000
namespace Go.Proofs.YtnnipocjapblkaaGreat
set_option linter.unusedVariables false
open Go.RowKit
section
variable {P:Program} {tt:List (Nat × AV)} {hh:Hp} {nn dd:Nat} {g:Option (Nat × Bool)} {l:List AInst} {acc:List SD} {K:List SD→St→Prop}
theorem r_callF2 {fo:Operand} {args:List Operand} {f:FuncId} {fi ca avs avs':List AV} {r:AV} (i j:Nat) {o o2:OB} (rd:List Nat) (hc:ACalls P f avs' r) (h:RG P (⟨⟨some dd,g,.call fo args⟩,r,rd,[(j,some { o2 with ro:=true }),(i,some { o with ro:=true })],0⟩::acc) l ⟨(dd,r)::tt,(j,some { o2 with ro:=true })::(i,some { o with ro:=true })::hh,nn⟩ K) (hg:gOK ⟨tt,hh,nn⟩ g:=by first|exact True.intro|rfl) (hf:ev ⟨tt,hh,nn⟩ fo=.fn f fi ca:=by rfl) (ho:hl hh i=some o:=by rfl) (ho2:hl ((i,some { o with ro:=true })::hh) j=some o2:=by rfl) (hv:optAll (viewN true (restr rd ((j,some { o2 with ro:=true })::(i,some { o with ro:=true })::hh)) 4) (fi++(args.map (ev ⟨tt,hh,nn⟩)++ca))=some avs:=by rfl) (hs:SubL avs avs':=by (repeat (first|exact SubL.nil|refine SubL.cons (by first|exact Sub.refl _|exact Sub.nil _|exact Sub.any _) ?_))):RG P acc (⟨some dd,g,.call fo args⟩::l) ⟨tt,hh,nn⟩ K :=
 RG.step (Step.freeze (upd:=[(j,some { o2 with ro:=true })]) i ho (Step.freeze (st:=⟨tt,(i,some { o with ro:=true })::hh,nn⟩) (upd:=[]) j ho2 (q_call (st:=⟨tt,(j,some { o2 with ro:=true })::(i,some { o with ro:=true })::hh,nn⟩) true rd hg hf hv hs hc rfl))) h
end
def ofZ (z:Int):Num:=⟨decide (z<0),limbs z.natAbs,[1]⟩
def digZ (m:Int):List Int:=[m % 4294967296,m / 4294967296]
theorem digZ_ok {m:Int} (h0:0≤m) (h1:m≤9223372036854775807):limOK (digZ m):=by
 intro z hz
 simp only [digZ,List.mem_cons,List.not_mem_nil,or_false] at hz
 rcases hz with h|h<;>omega
theorem digZ_val {m:Int} (h0:0≤m) (h1:m≤9223372036854775807):valL (digZ m)=m.toNat:=by
 simp only [digZ,valL]; omega
theorem digZ_len (m:Int):(digZ m).length=2:=rfl
theorem sgnV_false (V:Nat):sgnV false V=false:=by unfold sgnV; split<;>rfl
theorem sgnV_true {V:Nat} (h:V≠0):sgnV true V=true:=by unfold sgnV; rw [if_neg h]
theorem r3Of_a (z:Int) (h0 : -9223372036854775808≤z) (h1:z≤9223372036854775807):ACalls Tryz.prog 173 [.lit (.int .i64 z)] (.agg (intV (decide (z<0)) (limbs z.natAbs))):=by
 have hB:maxB=1000000000:=rfl
 by_cases hz:0≤z
 ·have c1:=r3Norm_a false (digZ z) (digZ_ok hz h1) (by rw [digZ_len]; omega)
  rw [digZ_val hz h1,sgnV_false,show z.toNat=z.natAbs from by omega] at c1
  rw [show decide (z<0)=false from by simp; omega]
  refine acalls_of code_scrimref03_Of (by simp [fn_scrimref03_Of]) fun C hC => ?_
  refine walk2 ?_
  exact fin
 ·have hm0:0 ≤ -1 - z:=by omega
  have hm1 : -1 - z≤9223372036854775807:=by omega
  have c2:=rAdd_a (digZ (-1 - z)) [1] (digZ_ok hm0 hm1) (by intro y hy; simp at hy; omega) (by rw [digZ_len]; omega) (by simp)
  rw [digZ_val hm0 hm1,show valL [1]=1 from by simp [valL],show (-1 - z).toNat+1=z.natAbs from by omega] at c2
  have hll:=limbs_len_pow 64 z.natAbs (by omega)
  have c1:=r3Norm_a true (limbs z.natAbs) (limbs_ok _) (by omega)
  rw [valL_limbs,sgnV_true (by omega)] at c1
  rw [show decide (z<0)=true from by simp; omega]
  refine acalls_of code_scrimref03_Of (by simp [fn_scrimref03_Of]) fun C hC => ?_
  refine walk2 ?_
  refine aw_reg ?_
  refine rrun2 ?_
  refine r_callF2 1 2 [1,2] c2 ?_
  refine rrun2 ?_
  refine rg_nil ⟨rfl,?_⟩
  refine walk2 ?_
  exact fin
theorem r4Whole_a (n:Bool) (V:Nat) (hl:(limbs V).length≤maxB):ACalls Tryz.prog 174 [.agg (intV n (limbs V))] (.agg (numV ⟨sgnV n V,limbs V,[1]⟩)):=by
 have c1:=r3Norm_a n (limbs V) (limbs_ok _) hl
 rw [valL_limbs] at c1
 refine acalls_of code_scrimref04_Whole (by simp [fn_scrimref04_Whole]) fun C hC => ?_
 refine walk2 ?_
 exact fin
theorem sgn_dec (z:Int):sgnV (decide (z<0)) z.natAbs=decide (z<0):=by
 unfold sgnV; split
 ·rename_i h; rw [eq_comm,decide_eq_false_iff_not]; omega
 ·rfl
theorem r4Of_a (z:Int) (h0 : -9223372036854775808≤z) (h1:z≤9223372036854775807):ACalls Tryz.prog 123 [.lit (.int .i64 z)] (.agg (numV (ofZ z))):=by
 have hB:maxB=1000000000:=rfl
 have c1:=r3Of_a z h0 h1
 have hll:=limbs_len_pow 64 z.natAbs (by omega)
 have c2:=r4Whole_a (decide (z<0)) z.natAbs (by omega)
 rw [sgn_dec] at c2
 refine acalls_of code_scrimref04_Of (by simp [fn_scrimref04_Of]) fun C hC => ?_
 refine walk2 ?_
 exact fin
def intC (z:Int):Cell:=.mk 0 0 (ofZ z) 0 []
theorem r8Int_a (z:Int) (h0 : -9223372036854775808≤z) (h1:z≤9223372036854775807):ACalls Tryz.prog 55 [.lit (.int .i64 z)] (.agg (cellV (intC z))):=by
 have c1:=r4Of_a z h0 h1
 refine acalls_of code_scrimref08_Int (by simp [fn_scrimref08_Int]) fun C hC => ?_
 refine walk2 ?_
 exact fin
theorem r11Vector_a (l:List Int) (s:Nat) (hl:l.length≤maxB) (hr:∀ z ∈ l,-9223372036854775808≤z∧z≤9223372036854775807):ACalls Tryz.prog 17 [.sl 1 (intsA .i64 l),labV s] (.agg (arrV (.mk s [(l.length:Int)] (l.map intC)))):=by
 have hB:maxB=1000000000:=rfl
 have ll:=intsA_len .i64 l
 refine acalls_of code_scrimref11_Vector (by simp [fn_scrimref11_Vector]) fun C hC => ?_
 refine walk2 ?_
 refine aw_nilF 2 2 54 7 rfl rfl rfl rfl ?_
 refine aw_loopB [0,4,5] [0,1] (fun k:Nat=>[(6,.lit (.int .i64 k))]) (fun k=>[(2,some ⟨false,false,26,3,[[labV s,.own 1,.own 3]]⟩),(3,some ⟨true,false,54,7,((l.take k).map intC).map cellR⟩)]) 4
  (fun k=>k≤l.length) (fun k=>l.length - k) 0 (Nat.zero_le _) ?_
 rintro k hk
 dsimp only [List.cons_append,List.nil_append]
 by_cases hlt:k<l.length
 ·obtain ⟨z,hz⟩:∃ z,l[k]? = some z:=⟨_,List.getElem?_eq_getElem hlt⟩
  have hzr:=hr z (List.mem_of_getElem? hz)
  have c1:=r8Int_a z hzr.1 hzr.2
  have hzk:=int_at (k:=.i64) hz
  have hms:((l.take k).map intC).map cellR++[cellV (intC z)]=((l.take (k+1)).map intC).map cellR:=by
   rw [takeA_snoc hz]; simp [cellR_eq]
  have hlm:(((l.take k).map intC).map cellR).length=k:=by simp; omega
  refine walk2 ?_
  exact ⟨k+1,by omega,by omega,wkR hC.m [(3,5)] (by rw [← hms]; rfl)⟩
 ·rw [List.take_of_length_le (by omega)]
  refine walk2 ?_
  exact fin
theorem vector_a (cs:List Cell) (hb:cs.length≤100000000) (hc:∀ c ∈ cs,c.n.top.length≤maxB∧c.n.bot.length≤maxB∧c.ins.length≤maxB):ACalls Tryz.prog 106 [.sl 7 (cs.map cellR)] (.agg (arrV (.mk 0 [(cs.length:Int)] cs))):=by
 have hB:maxB=1000000000:=rfl
 have lcs:((cs.map cellR).length:Int)=cs.length:=by simp
 refine acalls_of code_array_Vector (by simp [fn_array_Vector]) fun C hC => ?_
 refine walk2 ?_
 have e0:=rowK_zero cellV cellZ cs
 refine aw_loopB [2,3,9,10,0] [0] (fun k:Nat=>[(11,.lit (.int .i64 k))]) (fun k=>[(1,some ⟨true,false,54,7,rowK cellV cellZ cs k⟩)]) 2
  (fun k=>k≤cs.length) (fun k=>cs.length - k) 0 (Nat.zero_le _) ?_
 rintro k hk
 dsimp only [List.cons_append,List.nil_append]
 by_cases hlt:k<cs.length
 ·obtain ⟨c,hck⟩:∃ c,cs[k]? = some c:=⟨_,List.getElem?_eq_getElem hlt⟩
  obtain ⟨h1,h2,h3⟩:=hc c (List.mem_of_getElem? hck)
  have c1:=own_a c h1 h2 h3
  have hcv:=cell_at hck
  have hset:=rowK_set cellV cellZ cs k c hck
  have hget:=rowK_get cellV cellZ cs k hlt
  have hll:=rowK_len cellV cellZ cs k hk
  refine walk2 ?_
  exact ⟨k+1,by omega,by omega,wkR hC.m [] (by rw [← hset]; rfl)⟩
 ·rw [rowK_end cellV cellZ cs k hlt,show cs.map cellV=cs.map cellR from by simp [cellR_eq]]
  refine walk2 ?_
  exact fin
section
variable {P:Program} {tt:List (Nat × AV)} {hh:Hp} {nn dd:Nat} {g:Option (Nat × Bool)} {l:List AInst} {acc:List SD} {K:List SD→St→Prop}
theorem r_neg {k:IntKind} {x:Operand} {n:Int} (v:Int) (hv:k.wrap (0 - n)=v) (h:RG P (⟨⟨some dd,g,.un .neg x⟩,.lit (.int k v),[],[],0⟩::acc) l ⟨(dd,.lit (.int k v))::tt,hh,nn⟩ K)
 (hg:gOK ⟨tt,hh,nn⟩ g:=by first|exact True.intro|rfl) (hx:ev ⟨tt,hh,nn⟩ x=.lit (.int k n):=by rfl):RG P acc (⟨some dd,g,.un .neg x⟩::l) ⟨tt,hh,nn⟩ K:=by subst hv; exact RG.step (q_neg hg hx) h
end
theorem i64_wrap (n:Int) (h0 : -9223372036854775808≤n) (h1:n≤9223372036854775807):IntKind.i64.wrap n=n:=IntWalk.i64_in _ (by omega)
theorem limbs_cases (X:Nat):(X=0∧limbs X=[])∨(0<X∧X<4294967296∧limbs X=[(X:Int)])∨(4294967296≤X∧X<18446744073709551616∧limbs X=[((X % 4294967296:Nat):Int),((X / 4294967296:Nat):Int)])∨(18446744073709551616≤X∧2<(limbs X).length):=by
 by_cases h0:X=0
 ·left; exact ⟨h0,by rw [h0,limbs_zero]⟩
 rw [limbs_pos h0]
 by_cases h1:X<4294967296
 ·right; left
  rw [show X / 4294967296=0 from by omega,limbs_zero,show X % 4294967296=X from by omega]
  exact ⟨by omega,h1,rfl⟩
 rw [limbs_pos (show X / 4294967296≠0 from by omega)]
 by_cases h2:X<18446744073709551616
 ·right; right; left
  rw [show X / 4294967296 / 4294967296=0 from by omega,limbs_zero,show X / 4294967296 % 4294967296=X / 4294967296 from by omega]
  exact ⟨by omega,h2,rfl⟩
 ·right; right; right
  rw [limbs_pos (show X / 4294967296 / 4294967296≠0 from by omega)]
  exact ⟨by omega,by simp⟩
def smallV (g:Bool) (X:Nat):Int × Bool:=if g then (if X≤9223372036854775808 then (-(X:Int),true) else (0,false)) else (if X≤9223372036854775807 then ((X:Int),true) else (0,false))
theorem smallV_big {g:Bool} {X:Nat} (h:18446744073709551616≤X):smallV g X=(0,false):=by
 unfold smallV; split
 ·rw [if_neg (by omega)]
 ·rw [if_neg (by omega)]
theorem smallV_range (g:Bool) (X:Nat) : -9223372036854775808≤(smallV g X).1∧(smallV g X).1≤9223372036854775807:=by
 unfold smallV
 split<;>split<;>simp<;>omega
theorem or_add (a b:Nat) (ha:a<4294967296) (hb:b<4294967296):bits .or .u64 (a:Int) ((b * 4294967296:Nat):Int)=((a+4294967296 * b:Nat):Int):=by
 have e:bits .or .u64 (a:Int) ((b * 4294967296:Nat):Int)=((a ||| b * 4294967296:Nat):Int):=u64_or_nat a (b * 4294967296) (by omega) (by omega)
 have h:=Nat.shiftLeft_add_eq_or_of_lt (show a<2 ^ 32 from ha) b
 rw [Nat.shiftLeft_eq] at h
 rw [e,Nat.or_comm,show b * 4294967296=b * 2 ^ 32 from rfl,← h]
 omega
theorem neg_wrap (X:Nat) (hX:X<18446744073709551616):IntKind.u64.wrap (0 - (X:Int))=if X=0 then 0 else 18446744073709551616 - (X:Int):=by
 simp only [IntKind.wrap,IntKind.bits,IntKind.signed,Bool.false_and,Bool.false_eq_true,if_false]
 split<;>omega
theorem neg_conv (X:Nat) (hX:X≤9223372036854775808):IntKind.i64.wrap (if X=0 then 0 else 18446744073709551616 - (X:Int)) = -(X:Int):=by
 by_cases h:X=0
 ·rw [if_pos h]; subst h; decide
 ·rw [if_neg h]
  simp only [IntKind.wrap,IntKind.bits,IntKind.signed,Bool.true_and]
  split
  ·omega
  ·rename_i hh
   exact absurd (decide_eq_true (by omega)) hh
theorem wSmall_a (g:Bool) (m:List Int) (hm:limOK m) (lm:m.length≤maxB):ACalls Tryz.prog 176 [.agg (intV g m)] (.tup [.lit (.int .i64 (smallV (sgnV g (valL m)) (valL m)).1),.lit (.bool (smallV (sgnV g (valL m)) (valL m)).2)]):=by
 have c1:=wnorm_a g m lm
 rw [trimI_limbs hm,sgn_limbs] at c1
 generalize valL m=X at c1 ⊢
 generalize sgnV g X=G at c1 ⊢
 have lx:=intsA_len .u32 (limbs X)
 have hcs:=limbs_cases X
 have hval:=valL_limbs X
 have hlim:=limbs_ok X
 refine acalls_of code_whole_Small (by simp [fn_whole_Small]) fun C hC => ?_
 by_cases h2:2<(limbs X).length
 ·rw [smallV_big (by rcases hcs with ⟨_,e⟩|⟨_,_,e⟩|⟨_,_,e⟩|⟨e,_⟩<;>first|exact e|(rw [e] at h2; simp at h2))]
  refine walk2 ?_
  exact fin
 ·have hX:X<18446744073709551616:=by rcases hcs with ⟨e,_⟩|⟨_,e,_⟩|⟨_,e,_⟩|⟨_,e⟩<;>omega
  clear hcs
  generalize limbs X=ls at c1 lx hval hlim h2
  refine walk2 ?_
  refine aw_loopB [1,14,15] [0] (fun k:Nat=>[(4,.lit (.int .u64 ((valL (ls.take k):Nat):Int))),(16,.lit (.int .i64 k))]) (fun _=>[]) 1 (fun k=>k≤ls.length) (fun k=>ls.length - k) 0 (Nat.zero_le _) ?_
  rintro k hk
  dsimp only [List.cons_append,List.nil_append]
  by_cases hlt:k<ls.length
  ·obtain ⟨v,hv⟩:∃ v,ls[k]? = some v:=⟨_,List.getElem?_eq_getElem hlt⟩
   have hvr:=hlim v (List.mem_of_getElem? hv)
   have hvk:(intsA .u32 ls)[((k:Nat):Int).toNat]? = some [.lit (.int .u32 v)]:=by rw [Int.toNat_natCast]; exact int_at hv
   obtain ⟨w,rfl⟩:∃ w:Nat,v=(w:Int):=⟨v.toNat,by omega⟩
   refine walk2 ?_
   refine aw_reg ?_
   refine rrun2 ?_
   have hk2:k=0∨k=1:=by omega
   rcases hk2 with rfl|rfl
   ·have e1:valL (ls.take 1)=w:=by
     rw [takeA_snoc hv]; simp [valL]
    refine r_shl (w:Int) ?_ (hv := ?_)
    ·refine rrun2 ?_
     refine rg_nil ⟨rfl,?_⟩
     refine walk2 ?_
     have e3:bits .or .u64 ((valL (ls.take 0):Nat):Int) (w:Int)=(w:Int):=by
      have:=u64_or_nat 0 w (by omega) (by omega)
      rw [Nat.zero_or] at this
      exact this
     exact ⟨1,by omega,by omega,wkR hC.m [] (by
      rw [e1]
      conv=>rhs; rw [← e3]
      rfl)⟩
    ·show IntKind.u64.wrap ((w:Int) * 1)=w
     rw [Int.mul_one]; exact u64_nat w (by omega)
   ·obtain ⟨v0,hv0⟩:∃ v0,ls[0]? = some v0:=⟨_,List.getElem?_eq_getElem (by omega)⟩
    have hv0r:=hlim v0 (List.mem_of_getElem? hv0)
    obtain ⟨w0,rfl⟩:∃ w:Nat,v0=(w:Int):=⟨v0.toNat,by omega⟩
    have e0:valL (ls.take 1)=w0:=by
     rw [takeA_snoc hv0]; simp [valL]
    have e1:valL (ls.take 2)=w0+4294967296 * w:=by
     rw [takeA_snoc hv,takeA_snoc hv0]; simp [valL]
    have e2:=or_add w0 w (by omega) (by omega)
    rw [e0]
    refine r_shl ((w * 4294967296:Nat):Int) ?_ (hv := ?_)
    ·refine rrun2 ?_
     refine rg_nil ⟨rfl,?_⟩
     refine walk2 ?_
     exact ⟨2,by omega,by omega,wkR hC.m [] (by rw [e1,← e2]; rfl)⟩
    ·show IntKind.u64.wrap ((w:Int) * 4294967296)=_
     rw [Int.natCast_mul]; exact u64_nat (w * 4294967296) (by omega)
  ·rw [show ls.take k=ls from List.take_of_length_le (by omega),hval]
   cases G
   ·by_cases hs:X≤9223372036854775807
    ·rw [show smallV false X=((X:Int),true) from by simp [smallV,hs]]
     refine walk2 ?_
     exact fin
    ·rw [show smallV false X=(0,false) from by simp [smallV,hs]]
     refine walk2 ?_
     exact fin
   ·by_cases hs:X≤9223372036854775808
    ·rw [show smallV true X=(-(X:Int),true) from by simp [smallV,hs]]
     have e1:=neg_wrap X hX
     have e2:=neg_conv X hs
     rw [← e2]
     refine walk2 ?_
     refine aw_reg ?_
     refine rrun2 ?_
     refine r_neg _ e1 ?_
     refine rrun2 ?_
     refine rg_nil ⟨rfl,?_⟩
     refine walk2 ?_
     exact fin
    ·rw [show smallV true X=(0,false) from by simp [smallV,hs]]
     refine walk2 ?_
     exact fin
set_option linter.unusedSimpArgs false
abbrev u32A (z:Int):AV:=.lit (.int .u32 z)
abbrev u64A (z:Int):AV:=.lit (.int .u64 z)
def lim1 (z:Int):Prop:=0≤z∧z<4294967296
theorem add32_a (x y c:Int) (hx:lim1 x) (hy:lim1 y) (hc:lim1 c):ACalls Tryz.prog 255 [u32A x,u32A y,u32A c] (.tup [u32A ((x+y+c) % 4294967296),u32A ((x+y+c) / 4294967296)]):=by
 obtain ⟨x0,x1⟩:=hx
 obtain ⟨y0,y1⟩:=hy
 obtain ⟨c0,c1⟩:=hc
 have h1:IntKind.u32.wrap (x+y+c)=(x+y+c) % 4294967296:=rfl
 refine acalls_of code_math_bits_Add32 (by simp [fn_math_bits_Add32]) fun C hC => ?_
 refine wk5 ?_
 exact fin
theorem wrapB (v:BitVec 32):IntKind.u32.wrap (v.toNat:Int)=v.toNat:=u32_in _ (by omega) (by have:=v.isLt; omega)
theorem ofB (v:BitVec 32):BitVec.ofInt 32 (v.toNat:Int)=v:=by
 apply BitVec.eq_of_toNat_eq
 have:=v.isLt
 simp only [BitVec.toNat_ofInt]
 omega
theorem top_bit (v:BitVec 32):(v.toNat:Int) / 2147483648=if v.msb then 1 else 0:=by
 have:=v.isLt
 rw [BitVec.msb_eq_decide]
 by_cases h:2 ^ (32 - 1)≤v.toNat
 ·rw [if_pos (decide_eq_true h)]; omega
 ·rw [if_neg (by simpa using h)]; omega
def subC (x y b:Int):Int:=if x<y+b then 1 else 0
theorem borrow_bit (X Y D:BitVec 32) (b:Int) (b0:0≤b) (b1:b≤1) (hD:(D.toNat:Int)=((X.toNat:Int) - Y.toNat - b) % 4294967296):((((~~~X) &&& Y) ||| ((~~~(X ^^^ Y)) &&& D)).toNat:Int) / 2147483648=subC X.toNat Y.toNat b:=by
 rw [top_bit]
 have h1:=X.isLt
 have h2:=Y.isLt
 have e1:=BitVec.msb_eq_decide X
 have e2:=BitVec.msb_eq_decide Y
 have e3:=BitVec.msb_eq_decide D
 simp only [BitVec.msb_or,BitVec.msb_and,BitVec.msb_not,BitVec.msb_xor,subC]
 rw [e1,e2,e3]
 by_cases p1:2 ^ (32 - 1)≤X.toNat<;>by_cases p2:2 ^ (32 - 1)≤Y.toNat<;>by_cases p3:2 ^ (32 - 1)≤D.toNat<;>simp only [p1,p2,p3,decide_true,decide_false]<;>simp only [Bool.not_true,Bool.not_false,Bool.and_true,Bool.and_false,Bool.true_and,Bool.false_and,Bool.or_false,Bool.or_true,Bool.false_or,Bool.true_or,Bool.xor_true,Bool.xor_false,Bool.false_eq_true,eq_self,if_true,if_false,Bool.true_xor,Bool.false_xor]<;>by_cases hq:(X.toNat:Int)<Y.toNat+b<;>simp [hq]<;>omega
theorem sub32_a (x y b:Int) (hx:lim1 x) (hy:lim1 y) (b0:0≤b) (b1:b≤1):ACalls Tryz.prog 256 [u32A x,u32A y,u32A b] (.tup [u32A ((x - y - b) % 4294967296),u32A (subC x y b)]):=by
 obtain ⟨x0,x1⟩:=hx
 obtain ⟨y0,y1⟩:=hy
 obtain ⟨X,hX⟩:∃ X:BitVec 32,x=X.toNat:=⟨BitVec.ofInt 32 x,by simp only [BitVec.toNat_ofInt]; omega⟩
 obtain ⟨Y,hY⟩:∃ Y:BitVec 32,y=Y.toNat:=⟨BitVec.ofInt 32 y,by simp only [BitVec.toNat_ofInt]; omega⟩
 have hd0:0≤(x - y - b) % 4294967296∧(x - y - b) % 4294967296<4294967296:=by omega
 obtain ⟨D,hD⟩:∃ D:BitVec 32,(x - y - b) % 4294967296=D.toNat:=⟨BitVec.ofInt 32 ((x - y - b) % 4294967296),by simp only [BitVec.toNat_ofInt]; omega⟩
 have hb:=borrow_bit X Y D b b0 b1 (by rw [← hD,hX,hY])
 have k1:absInt .sub .u32 x y=some (.int .u32 ((x - y) % 4294967296)):=rfl
 have k2:absInt .sub .u32 ((x - y) % 4294967296) b=some (.int .u32 ((x - y - b) % 4294967296)):=by
  show some (Value.int .u32 (((x - y) % 4294967296 - b) % 4294967296))=_
  congr 2; omega
 have k3:IntKind.u32.wrap (BitVec.ofInt IntKind.u32.bits IntKind.u32.max ^^^ BitVec.ofInt IntKind.u32.bits x).toNat=((~~~X).toNat:Int):=by
  rw [hX]
  show IntKind.u32.wrap (BitVec.ofInt 32 4294967295 ^^^ BitVec.ofInt 32 (X.toNat:Int)).toNat=_
  rw [ofB,wrapB]
  have e:(4294967295#32 ^^^ X) = ~~~X:=by
   rw [BitVec.xor_comm]; exact BitVec.xor_allOnes
  rw [show BitVec.ofInt 32 4294967295=4294967295#32 from rfl,e]
 have k4:absInt .and .u32 ((~~~X).toNat:Int) y=some (.int .u32 ((~~~X &&& Y).toNat:Int)):=by
  rw [hY]
  show some (Value.int .u32 (IntKind.u32.wrap (BitVec.ofInt 32 ((~~~X).toNat:Int) &&& BitVec.ofInt 32 (Y.toNat:Int)).toNat))=_
  rw [ofB,ofB,wrapB]
 have k5:absInt .xor .u32 x y=some (.int .u32 ((X ^^^ Y).toNat:Int)):=by
  rw [hX,hY]
  show some (Value.int .u32 (IntKind.u32.wrap (BitVec.ofInt 32 (X.toNat:Int) ^^^ BitVec.ofInt 32 (Y.toNat:Int)).toNat))=_
  rw [ofB,ofB,wrapB]
 have k6:IntKind.u32.wrap (BitVec.ofInt IntKind.u32.bits IntKind.u32.max ^^^ BitVec.ofInt IntKind.u32.bits ((X ^^^ Y).toNat:Int)).toNat=((~~~(X ^^^ Y)).toNat:Int):=by
  show IntKind.u32.wrap (BitVec.ofInt 32 4294967295 ^^^ BitVec.ofInt 32 ((X ^^^ Y).toNat:Int)).toNat=_
  rw [ofB,wrapB]
  have e:(4294967295#32 ^^^ (X ^^^ Y)) = ~~~(X ^^^ Y):=by
   rw [BitVec.xor_comm]; exact BitVec.xor_allOnes
  rw [show BitVec.ofInt 32 4294967295=4294967295#32 from rfl,e]
 have k7:absInt .and .u32 ((~~~(X ^^^ Y)).toNat:Int) ((x - y - b) % 4294967296)=some (.int .u32 ((~~~(X ^^^ Y) &&& D).toNat:Int)):=by
  rw [hD]
  show some (Value.int .u32 (IntKind.u32.wrap (BitVec.ofInt 32 ((~~~(X ^^^ Y)).toNat:Int) &&& BitVec.ofInt 32 (D.toNat:Int)).toNat))=_
  rw [ofB,ofB,wrapB]
 have k8:absInt .or .u32 ((~~~X &&& Y).toNat:Int) ((~~~(X ^^^ Y) &&& D).toNat:Int)=some (.int .u32 (((~~~X &&& Y) ||| (~~~(X ^^^ Y) &&& D)).toNat:Int)):=by
  show some (Value.int .u32 (IntKind.u32.wrap (BitVec.ofInt 32 ((~~~X &&& Y).toNat:Int) ||| BitVec.ofInt 32 ((~~~(X ^^^ Y) &&& D).toNat:Int)).toNat))=_
  rw [ofB,ofB,wrapB]
 have hs:subC x y b=(((~~~X &&& Y) ||| (~~~(X ^^^ Y) &&& D)).toNat:Int) / 2147483648:=by rw [hb,hX,hY]
 rw [hs]
 generalize ((~~~X).toNat:Int)=n1 at *
 generalize ((X ^^^ Y).toNat:Int)=n2 at *
 generalize ((~~~(X ^^^ Y)).toNat:Int)=n3 at *
 generalize ((~~~X &&& Y).toNat:Int)=n4 at *
 generalize ((~~~(X ^^^ Y) &&& D).toNat:Int)=n5 at *
 generalize (((~~~X &&& Y) ||| (~~~(X ^^^ Y) &&& D)).toNat:Int)=n6 at *
 clear hs hb
 refine acalls_of code_math_bits_Sub32 (by simp [fn_math_bits_Sub32]) fun C hC => ?_
 refine wk5 ?_
 exact fin
def len8T:ByteArray:=⟨#[0,1,2,2,3,3,3,3,4,4,4,4,4,4,4,4,5,5,5,5,5,5,5,5,5,5,5,5,5,5,5,5,6,6,6,6,6,6,6,6,6,6,6,6,6,6,6,6,6,6,6,6,6,6,6,6,6,6,6,6,6,6,6,6,7,7,7,7,7,7,7,7,7,7,7,7,7,7,7,7,7,7,7,7,7,7,7,7,7,7,7,7,7,7,7,7,7,7,7,7,7,7,7,7,7,7,7,7,7,7,7,7,7,7,7,7,7,7,7,7,7,7,7,7,7,7,7,7,8,8,8,8,8,8,8,8,8,8,8,8,8,8,8,8,8,8,8,8,8,8,8,8,8,8,8,8,8,8,8,8,8,8,8,8,8,8,8,8,8,8,8,8,8,8,8,8,8,8,8,8,8,8,8,8,8,8,8,8,8,8,8,8,8,8,8,8,8,8,8,8,8,8,8,8,8,8,8,8,8,8,8,8,8,8,8,8,8,8,8,8,8,8,8,8,8,8,8,8,8,8,8,8,8,8,8,8,8,8,8,8,8,8,8,8,8,8,8,8,8,8,8,8,8,8,8,8]⟩
def len8B (z:Nat):Bool:=match len8T[z]? with
 | some b=>Nat.ble b.toNat 8 && Nat.blt z (2 ^ b.toNat) && (Nat.beq z 0 || (Nat.blt 0 b.toNat && Nat.ble (2 ^ (b.toNat - 1)) z))
 | none=>false
theorem len8_all:((List.range 256).all len8B)=true:=by decide +kernel
theorem len8_at (z:Nat) (h:z<256):∃ b:UInt8,len8T[z]? = some b∧b.toNat≤8∧z<2 ^ b.toNat∧(0<z→0<b.toNat∧2 ^ (b.toNat - 1)≤z):=by
 have:=List.all_eq_true.1 len8_all z (List.mem_range.2 h)
 unfold len8B at this
 split at this
 ·rename_i b hb
  simp only [Bool.and_eq_true,Bool.or_eq_true,Nat.ble_eq,Nat.blt_eq,Nat.beq_eq] at this
  exact ⟨b,hb,this.1.1,this.1.2,fun h0=>by rcases this.2 with h|h; omega; exact h⟩
 ·cases this
theorem pow_shift {n k:Nat} {x q:Nat} (hq:q=x / 2 ^ k) (h1:q<2 ^ n) (h2:0<q→0<n∧2 ^ (n - 1)≤q) (h3:2 ^ k≤x):x<2 ^ (n+k)∧0<n+k∧2 ^ (n+k - 1)≤x:=by
 have hp:0<2 ^ k:=Nat.pow_pos (by omega)
 have hq0:0<q:=by rw [hq]; exact Nat.div_pos h3 hp
 obtain ⟨h4,h5⟩:=h2 hq0
 refine ⟨?_,by omega,?_⟩
 ·rw [Nat.pow_add]
  rw [hq] at h1
  exact (Nat.div_lt_iff_lt_mul hp).1 h1
 ·rw [show n+k - 1=(n - 1)+k from by omega,Nat.pow_add]
  rw [hq] at h5
  exact (Nat.le_div_iff_mul_le hp).1 h5
theorem len32_a (x:Nat) (h0:0<x) (h1:x<4294967296):∃ n:Nat,ACalls Tryz.prog 263 [u32A x] (.lit (.int .i64 n))∧x<2 ^ n∧2 ^ (n - 1)≤x∧0<n∧n≤32:=by
 have key:∀ (q k:Nat),q=x / 2 ^ k→k≤24→q<256→2 ^ k≤x→(∀ b:UInt8,len8T[((q:Nat):Int).toNat]? = some b→b.toNat≤8→ACalls Tryz.prog 263 [u32A x] (.lit (.int .i64 ((k:Int)+b.toNat)))) →
  ∃ n:Nat,ACalls Tryz.prog 263 [u32A x] (.lit (.int .i64 n))∧x<2 ^ n∧2 ^ (n - 1)≤x∧0<n∧n≤32:=fun q k hq hk h2 h3 hc=>by
  obtain ⟨b,hb,hb8,h4,h5⟩:=len8_at q h2
  obtain ⟨p1,p2,p3⟩:=pow_shift hq h4 h5 h3
  refine ⟨b.toNat+k,?_,p1,p3,p2,by omega⟩
  have:=hc b (by simpa using hb) hb8
  rwa [show ((b.toNat+k:Nat):Int)=(k:Int)+b.toNat from by omega]
 by_cases c1:65536≤x
 ·by_cases c2:256≤x / 65536
  ·refine key (x / 16777216) 24 (by simp) (by omega) (by omega) (by simp; omega) fun b hb hb8 => ?_
   have e1:IntKind.u8.wrap ((x:Int) / 65536 / 256)=((x / 16777216:Nat):Int):=by
    show ((x:Int) / 65536 / 256) % 256=_
    omega
   have e2:IntKind.i64.wrap (b.toNat:Int)=b.toNat:=i64_wrap _ (by omega) (by omega)
   refine acalls_of code_math_bits_Len32 (by simp [fn_math_bits_Len32]) fun C hC => ?_
   refine wk5 ?_
   exact fin
  ·refine key (x / 65536) 16 (by simp) (by omega) (by omega) (by simp; omega) fun b hb hb8 => ?_
   have e1:IntKind.u8.wrap ((x:Int) / 65536)=(((x / 65536):Nat):Int):=by
    show ((x:Int) / 65536) % 256=_
    omega
   have e2:IntKind.i64.wrap (b.toNat:Int)=b.toNat:=i64_wrap _ (by omega) (by omega)
   refine acalls_of code_math_bits_Len32 (by simp [fn_math_bits_Len32]) fun C hC => ?_
   refine wk5 ?_
   exact fin
 ·by_cases c2:256≤x
  ·refine key (x / 256) 8 (by simp) (by omega) (by omega) (by simp; omega) fun b hb hb8 => ?_
   have e1:IntKind.u8.wrap ((x:Int) / 256)=(((x / 256):Nat):Int):=by
    show ((x:Int) / 256) % 256=_
    omega
   have e2:IntKind.i64.wrap (b.toNat:Int)=b.toNat:=i64_wrap _ (by omega) (by omega)
   refine acalls_of code_math_bits_Len32 (by simp [fn_math_bits_Len32]) fun C hC => ?_
   refine wk5 ?_
   exact fin
  ·refine key x 0 (by simp) (by omega) (by omega) (by simp; omega) fun b hb hb8 => ?_
   have e1:IntKind.u8.wrap ((x:Int))=((x:Nat):Int):=by
    show ((x:Int)) % 256=_
    omega
   have e2:IntKind.i64.wrap (b.toNat:Int)=b.toNat:=i64_wrap _ (by omega) (by omega)
   refine acalls_of code_math_bits_Len32 (by simp [fn_math_bits_Len32]) fun C hC => ?_
   refine wk5 ?_
   exact fin
theorem lead32_a (x:Nat) (h0:0<x) (h1:x<4294967296):∃ s:Nat,ACalls Tryz.prog 257 [u32A x] (.lit (.int .i64 s))∧s≤31∧2147483648≤x * 2 ^ s∧x * 2 ^ s<4294967296:=by
 obtain ⟨n,hc,h2,h3,h4,h5⟩:=len32_a x h0 h1
 refine ⟨32 - n,?_,by omega,?_,?_⟩
 ·rw [show ((32 - n:Nat):Int)=32 - (n:Int) from by omega]
  refine acalls_of code_math_bits_LeadingZeros32 (by simp [fn_math_bits_LeadingZeros32]) fun C hC => ?_
  refine wk5 ?_
  exact fin
 ·have:=Nat.mul_le_mul_right (2 ^ (32 - n)) h3
  rw [← Nat.pow_add,show n - 1+(32 - n)=31 from by omega] at this
  omega
 ·have:=Nat.mul_lt_mul_of_pos_right h2 (show 0<2 ^ (32 - n) from Nat.pow_pos (by omega))
  rw [← Nat.pow_add,show n+(32 - n)=32 from by omega] at this
  omega
def BB (k:Nat):Int:=4294967296 ^ k
theorem BB_zero:BB 0=1:=rfl
theorem BB_succ (k:Nat):BB (k+1)=BB k * 4294967296:=Int.pow_succ ..
theorem BB_pos (k:Nat):0<BB k:=Int.pow_pos (by omega)
theorem BB_add (a b:Nat):BB (a+b)=BB a * BB b:=Int.pow_add ..
theorem BB_mono {a b:Nat} (h:a≤b):BB a≤BB b:=by
 obtain ⟨c,rfl⟩:=Nat.exists_eq_add_of_le h
 rw [BB_add]
 have h1:=BB_pos a
 have h2:=BB_pos c
 have:=Int.mul_le_mul_of_nonneg_left (show (1:Int)≤BB c by omega) (Int.le_of_lt h1)
 omega
def vI:List Int→Int
 | []=>0
 | z::zs=>z+4294967296 * vI zs
theorem vI_val:∀ {xs:List Int},limOK xs→vI xs=(valL xs:Int)
 | [],_=>rfl
 | z::zs,h=>by
   have:=vI_val h.tail
   simp only [List.tail_cons] at this
   have hz:=h z (by simp)
   simp only [vI,valL,this]
   omega
theorem vI_append:∀ (xs ys:List Int),vI (xs++ys)=vI xs+BB xs.length * vI ys
 | [],ys=>by simp [vI,BB_zero]
 | z::zs,ys=>by
   simp only [List.cons_append,vI,vI_append zs ys,List.length_cons,BB_succ]
   grind
theorem vI_snoc (xs:List Int) (v:Int):vI (xs++[v])=vI xs+BB xs.length * v:=by rw [vI_append]; simp [vI]
theorem limOK.app {xs ys:List Int} (h:limOK xs) (k:limOK ys):limOK (xs++ys):=fun z hz=>by
 rcases List.mem_append.1 hz with hz|hz
 ·exact h z hz
 ·exact k z hz
theorem limOK.snoc {xs:List Int} (h:limOK xs) {v:Int} (h0:0≤v) (h1:v<4294967296):limOK (xs++[v]):=h.app (fun z hz=>by obtain rfl:=List.mem_singleton.1 hz; exact ⟨h0,h1⟩)
theorem limOK.take {xs:List Int} (h:limOK xs) (k:Nat):limOK (xs.take k):=fun z hz=>h z (List.mem_of_mem_take hz)
theorem limOK.at {xs:List Int} (h:limOK xs) {k:Nat} {z:Int} (hz:xs[k]? = some z):0≤z∧z<4294967296:=h z (List.mem_of_getElem? hz)
theorem limOK.nil:limOK []:=fun z hz=>by cases hz
theorem limOK.rep (n:Nat):limOK (List.replicate n 0):=fun z hz=>by rw [List.eq_of_mem_replicate hz]; omega
theorem vI_nonneg:∀ {xs:List Int},limOK xs→0≤vI xs
 | [],_=>Int.le_refl _
 | z::zs,h=>by
   have:=vI_nonneg h.tail
   have hz:=h z (by simp)
   simp only [List.tail_cons] at this
   simp only [vI]; omega
theorem vI_lt:∀ {xs:List Int},limOK xs→vI xs<BB xs.length
 | [],_=>by simp [vI,BB_zero]
 | z::zs,h=>by
   have:=vI_lt h.tail
   have hz:=h z (by simp)
   simp only [List.tail_cons] at this
   simp only [vI,List.length_cons,BB_succ]; omega
theorem vI_rep (n:Nat):vI (List.replicate n 0)=0:=by
 induction n with
 | zero=>rfl
 | succ n ih=>simp only [List.replicate_succ,vI,ih]; rfl
theorem vI_take_succ {xs:List Int} {k:Nat} {z:Int} (h:xs[k]? = some z):vI (xs.take (k+1))=vI (xs.take k)+BB k * z:=by
 obtain ⟨hk,rfl⟩:=List.getElem?_eq_some_iff.1 h
 rw [List.take_succ_eq_append_getElem hk,vI_snoc,List.length_take,Nat.min_eq_left (Nat.le_of_lt hk)]
theorem vI_split (xs:List Int) {k:Nat} (h:k≤xs.length):vI xs=vI (xs.take k)+BB k * vI (xs.drop k):=by
 have:=vI_append (xs.take k) (xs.drop k)
 rwa [List.take_append_drop,List.length_take,Nat.min_eq_left h] at this
theorem vI_limbs (n:Nat):vI (limbs n)=n:=by rw [vI_val (limbs_ok n),valL_limbs]
theorem limbs_len_lt {V:Nat} {k:Nat} (h:(V:Int)<BB k):(limbs V).length≤k:=by
 induction k generalizing V with
 | zero =>
   rw [BB_zero] at h; obtain rfl:V=0:=by omega
   rw [limbs_zero]; simp
 | succ k ih =>
   by_cases h0:V=0
   ·subst h0; rw [limbs_zero]; simp
   ·rw [limbs_pos h0,List.length_cons]
    have:=ih (V:=V / 4294967296) (by rw [BB_succ] at h; omega)
    omega
theorem limbs_len_ge {V:Nat} {k:Nat} (h:BB k≤(V:Int)):k<(limbs V).length:=by
 induction k generalizing V with
 | zero=>rw [BB_zero] at h; rw [limbs_pos (by omega)]; simp
 | succ k ih =>
   rw [BB_succ] at h
   have h1:=BB_pos k
   rw [limbs_pos (by omega),List.length_cons]
   have:=ih (V:=V / 4294967296) (by omega)
   omega
theorem limbs_lt (V:Nat):(V:Int)<BB (limbs V).length:=by
 have:=vI_lt (limbs_ok V)
 rwa [vI_limbs] at this
theorem limbs_ge {V:Nat} (h:V≠0):BB ((limbs V).length - 1)≤(V:Int):=by
 refine Int.not_lt.1 fun hl => ?_
 have:=limbs_len_lt hl
 have:0<(limbs V).length:=by rw [limbs_pos h]; simp
 omega
theorem vI_inj:∀ {xs ys:List Int},limOK xs→limOK ys→xs.length=ys.length→vI xs=vI ys→xs=ys
 | [],[],_,_,_,_=>rfl
 | x::xs,y::ys,hx,hy,hl,h=>by
   have h1:=hx x (by simp)
   have h2:=hy y (by simp)
   simp only [vI] at h
   have e:x=y:=by omega
   have e2:vI xs=vI ys:=by omega
   have e3:xs=ys:=vI_inj (xs:=xs) (ys:=ys) hx.tail hy.tail (by simpa using hl) e2
   rw [e,e3]
theorem limbs_of {xs:List Int} {V:Nat} (h:limOK xs) (hv:vI xs=V) (ht:xs.length=0∨BB (xs.length - 1)≤(V:Int)):xs=limbs V:=by
 have hl:xs.length=(limbs V).length:=by
  rcases ht with ht|ht
  ·have:xs=[]:=List.eq_nil_of_length_eq_zero ht
   subst this
   have:V=0:=by simp only [vI] at hv; omega
   subst this
   rw [limbs_zero]
  ·have h1:=limbs_len_ge ht
   have h2:=vI_lt h
   rw [hv] at h2
   have h3:=limbs_len_lt h2
   omega
 exact vI_inj h (limbs_ok V) hl (by rw [hv,vI_limbs])
theorem trim_val {xs:List Int} {V:Nat} (h:limOK xs) (hv:vI xs=V):trimI xs=limbs V:=by
 rw [trimI_limbs h]
 congr 1
 have:=vI_val h
 omega
theorem mix_at {r xs:List Int} {k:Nat} (hr:r.length=k):(r++xs.drop k)[k]? = xs[k]? := by
 rw [List.getElem?_append_right (by omega),List.getElem?_drop]
 congr 1; omega
theorem mix_set {r xs:List Int} {k:Nat} (hr:r.length=k) (hk:k<xs.length) (v:Int):(r++xs.drop k).set k v=(r++[v])++xs.drop (k+1):=by
 rw [List.set_append_right _ _ (by omega),hr,Nat.sub_self,List.drop_eq_getElem_cons hk,List.set_cons_zero,List.append_assoc]
 rfl
theorem mix_len {r xs:List Int} {k:Nat} (hr:r.length=k) (hk:k≤xs.length):(r++xs.drop k).length=xs.length:=by
 rw [List.length_append,List.length_drop,hr]; omega
theorem mix2_at {r xs:List Int} {k:Nat} (hk:k<xs.length):(xs.take (k+1)++r)[k]? = xs[k]? := by
 rw [List.getElem?_append_left (by rw [List.length_take]; omega),List.getElem?_take,if_pos (by omega)]
theorem mix2_set {r xs:List Int} {k:Nat} (hk:k<xs.length) (v:Int):(xs.take (k+1)++r).set k v=xs.take k++(v::r):=by
 rw [List.take_succ_eq_append_getElem hk,List.append_assoc,List.set_append_right _ _ (by rw [List.length_take]; omega),List.length_take,Nat.min_eq_left (by omega),Nat.sub_self]
 rfl
theorem mix2_len {r xs:List Int} {k:Nat} (hr:r.length+k=xs.length):(xs.take k++r).length=xs.length:=by
 rw [List.length_append,List.length_take]; omega
abbrev rowU (xs:List Int):OB:=⟨true,false,145,1,intsA .u32 xs⟩
theorem lim1_of {xs:List Int} (h:limOK xs) {k:Nat} {z:Int} (hz:xs[k]? = some z):lim1 z:=h.at hz
theorem trim_of {xs:List Int} (h:limOK xs):ACalls Tryz.prog 241 [.sl 1 (intsA .u32 xs)] (.sl 1 (intsA .u32 (limbs (valL xs)))):=by
 have:=trim_a xs
 rwa [trimI_limbs h] at this
theorem norm_of {xs:List Int} (h:limOK xs) (hb:xs.length≤maxB):ACalls Tryz.prog 223 [.sl 1 (intsA .u32 xs)] (.sl 1 (intsA .u32 (limbs (valL xs)))):=by
 have:=norm_a xs hb
 rwa [trimI_limbs h] at this
theorem cmp_top {xs ys:List Int} (hx:limOK xs) (hy:limOK ys) {k:Nat} {x y:Int} (h1:xs[k]? = some x) (h2:ys[k]? = some y) (hd:xs.drop (k+1)=ys.drop (k+1)) (hlt:x<y):vI xs<vI ys:=by
 obtain ⟨k1,e1⟩:=List.getElem?_eq_some_iff.1 h1
 obtain ⟨k2,e2⟩:=List.getElem?_eq_some_iff.1 h2
 have s1:=vI_split xs (k:=k+1) (by omega)
 have s2:=vI_split ys (k:=k+1) (by omega)
 rw [vI_take_succ h1] at s1
 rw [vI_take_succ h2,← hd] at s2
 have b1:=vI_lt (hx.take k)
 rw [List.length_take,Nat.min_eq_left (by omega)] at b1
 have b2:=vI_nonneg (hy.take k)
 have p:=BB_pos k
 have:=Int.mul_le_mul_of_nonneg_left (show x+1≤y by omega) (Int.le_of_lt p)
 rw [Int.mul_add,Int.mul_one] at this
 omega
theorem ncmp_a (xs ys:List Int) (hx:limOK xs) (hy:limOK ys):ACalls Tryz.prog 226 [.sl 1 (intsA .u32 xs),.sl 1 (intsA .u32 ys)] (.lit (.int .i64 (cmpI (valL xs) (valL ys)))):=by
 have c1:=trim_of hx
 have c2:=trim_of hy
 have lxs:=intsA_len .u32 xs
 have lt:=trimI_len xs
 rw [trimI_limbs hx] at lt
 generalize valL xs=X at *
 generalize valL ys=Y at *
 have lX:=intsA_len .u32 (limbs X)
 have lY:=intsA_len .u32 (limbs Y)
 have oX:=limbs_ok X
 have oY:=limbs_ok Y
 have vX:=vI_limbs X
 have vY:=vI_limbs Y
 refine acalls_of code_nat_Cmp (by simp [fn_nat_Cmp]) fun C hC => ?_
 refine aw_know 0 ((intsA .u32 xs).length≤281474976710656) (fun E w v h=>know_sl h) fun hkn => ?_
 by_cases h1:(limbs X).length<(limbs Y).length
 ·have:X<Y:=by
   refine Nat.lt_of_not_le fun h => ?_
   have:=limbs_len_mono h; omega
  rw [cmpI,if_pos this]
  refine wk5 ?_
  exact fin
 by_cases h2:(limbs Y).length<(limbs X).length
 ·have:Y<X:=by
   refine Nat.lt_of_not_le fun h => ?_
   have:=limbs_len_mono h; omega
  rw [cmpI,if_neg (by omega),if_pos this]
  refine wk5 ?_
  exact fin
 refine wk5 ?_
 refine aw_loopB [0,1,4] [] (fun k:Nat=>[(5,.lit (.int .i64 ((k:Int) - 1)))]) (fun _=>[]) 0 (fun k=>k≤(limbs X).length∧(limbs X).drop k=(limbs Y).drop k) (fun k=>k) (limbs X).length ⟨Nat.le_refl _,by rw [List.drop_length,List.drop_eq_nil_of_le (by omega)]⟩ ?_
 rintro k ⟨hk,hE⟩
 dsimp only [List.cons_append,List.nil_append]
 cases k with
 | zero =>
   have e:X=Y:=by
    have:limbs X=limbs Y:=by simpa using hE
    have h1:=vI_limbs X
    rw [this,vI_limbs] at h1
    omega
   rw [cmpI,if_neg (by omega),if_neg (by omega)]
   refine wk5 ?_
   exact fin
 | succ k =>
   obtain ⟨x,hx1⟩:∃ x,(limbs X)[k]? = some x:=⟨_,List.getElem?_eq_getElem (by omega)⟩
   obtain ⟨y,hy1⟩:∃ y,(limbs Y)[k]? = some y:=⟨_,List.getElem?_eq_getElem (by omega)⟩
   have ek:(((k+1:Nat):Int) - 1).toNat=k:=by omega
   have hxk:(intsA .u32 (limbs X))[(((k+1:Nat):Int) - 1).toNat]? = some [.lit (.int .u32 x)]:=by rw [ek]; exact int_at hx1
   have hyk:(intsA .u32 (limbs Y))[(((k+1:Nat):Int) - 1).toNat]? = some [.lit (.int .u32 y)]:=by rw [ek]; exact int_at hy1
   by_cases q1:x<y
   ·have:=cmp_top oX oY hx1 hy1 hE q1
    rw [vX,vY] at this
    rw [cmpI,if_pos (by omega)]
    refine wk5 ?_
    exact fin
   by_cases q2:y<x
   ·have:=cmp_top oY oX hy1 hx1 hE.symm q2
    rw [vX,vY] at this
    rw [cmpI,if_neg (by omega),if_pos (by omega)]
    refine wk5 ?_
    exact fin
   ·have hd:(limbs X).drop k=(limbs Y).drop k:=by
     obtain ⟨k1,e1⟩:=List.getElem?_eq_some_iff.1 hx1
     obtain ⟨k2,e2⟩:=List.getElem?_eq_some_iff.1 hy1
     rw [List.drop_eq_getElem_cons k1,List.drop_eq_getElem_cons k2,hE,e1,e2]
     congr 1; omega
    refine wk5 ?_
    exact ⟨k,by omega,⟨by omega,hd⟩,wkR hC.m [] (by rw [show ((k:Nat):Int) - 1=((k+1:Nat):Int) - 1 - 1 from by omega]; rfl)⟩
theorem aw_es {P:Program} {C:Ctx} {Q:Exit→St→Prop} {st:St} {c:ACode} (id:Nat) {o:OB} (es':List (List AV)) (ho:hl st.h id=some o) (e:o.es=es') (h:AW P C c Q ⟨st.t,(id,some { o with es:=es' })::st.h,st.nx⟩):AW P C c Q st:=by
 subst e
 refine aw_weak (s':=⟨st.t,(id,some { o with es:=o.es })::st.h,st.nx⟩) (fun E a w R=>⟨E,R.congr (fun _=>rfl) (fun k => ?_) (Nat.le_refl _)⟩) h
 by_cases hk:id=k
 ·subst hk
  rw [ho]
  simp [hl,look]
 ·have:Nat.beq id k=false:=by cases hb:Nat.beq id k; rfl; exact absurd (Nat.eq_of_beq_eq_true hb) hk
  simp [hl,look,this]
theorem aw_keepX {P:Program} {C:Ctx} {Q:Exit→St→Prop} {st:St} {c:ACode} (L H:List Nat) (n:Nat) {kt:List (Nat × AV)} {kh:Hp} (h:AW P C c Q ⟨kt,kh,n⟩)
 (et:(L.map fun k=>(k,getT st.t k))=kt:=by rfl) (eh:(H.map fun k=>(k,hl st.h k))=kh:=by rfl) (hn:Nat.ble st.nx n=true:=by rfl):AW P C c Q st:=by
 subst et eh
 exact aw_weak (weak_keep L H n (Nat.ble_eq ▸ hn)) h
abbrev nilS0:AV:=.lit (.slice none 0 0)
abbrev nA (k:Int):AV:=.lit (.int .i64 k)
def addRest:ACode:=match fn_nat_Add.body with|.seq _ (.seq _ (.seq _ r))=>r|c=>c
theorem addRest_w {C:Ctx} (hC:Pure C fn_nat_Add.N) (X Y:Nat) (hl:(limbs Y).length≤(limbs X).length) (hb:(limbs X).length≤100000) :
 AW Tryz.prog C addRest (retQ fn_nat_Add.res (.sl 1 (intsA .u32 (limbs (X+Y))))) ⟨[(0,.sl 1 (intsA .u32 (limbs X))),(1,.sl 1 (intsA .u32 (limbs Y))),(4,nilS0)],[],0⟩:=by
 have lX:=intsA_len .u32 (limbs X)
 have lY:=intsA_len .u32 (limbs Y)
 have oX:=limbs_ok X
 have oY:=limbs_ok Y
 have vX:=vI_limbs X
 have vY:=vI_limbs Y
 refine wk5 ?_
 refine r_copy ?_ ?_
 ·dsimp only; rw [List.length_replicate]; omega
 refine rrun5 ?_
 refine rg_nil ⟨rfl,?_⟩
 refine aw_es 0 (intsA .u32 (limbs X)) rfl (by dsimp only; rw [List.drop_eq_nil_of_le (by rw [List.length_replicate]; omega),List.append_nil]) ?_
 refine wk5 ?_
 refine aw_loopB [1,5,30] [] (fun x:Nat × Int × List Int=>[(6,u32A x.2.1),(31,nA x.1)]) (fun x=>[(0,some (rowU (x.2.2++(limbs X).drop x.1)))]) 1
  (fun x=>x.1≤(limbs X).length∧x.2.2.length=x.1∧limOK x.2.2∧(0≤x.2.1∧x.2.1≤1)∧vI ((limbs X).take x.1)+vI ((limbs Y).take x.1)=vI x.2.2+BB x.1 * x.2.1) (fun x=>(limbs X).length - x.1) (0,0,[]) ⟨Nat.zero_le _,rfl,limOK.nil,⟨by simp,by simp⟩,by simp [vI]⟩ ?_
 rintro ⟨i,c,r⟩ ⟨hi,hr,or,⟨c0,c1⟩,hE⟩
 dsimp only [List.cons_append,List.nil_append] at hi hr or c0 c1 hE ⊢
 have hml:=mix_len (xs:=limbs X) hr hi
 have lM:=intsA_len .u32 (r++(limbs X).drop i)
 have rv:=vI_nonneg or
 by_cases hlt:i<(limbs X).length
 ·obtain ⟨a,ha⟩:∃ a,(limbs X)[i]? = some a:=⟨_,List.getElem?_eq_getElem hlt⟩
  have hak:(intsA .u32 (r++(limbs X).drop i))[i]? = some [u32A a]:=int_at ((mix_at hr).trans ha)
  have la:=lim1_of oX ha
  have sX:=vI_take_succ ha
  have hset:=fun v=>mix_set (xs:=limbs X) hr hlt v
  by_cases hy:i<(limbs Y).length
  ·obtain ⟨y,hy1⟩:∃ y,(limbs Y)[i]? = some y:=⟨_,List.getElem?_eq_getElem hy⟩
   have hyk:(intsA .u32 (limbs Y))[i]? = some [u32A y]:=int_at hy1
   have ly:=lim1_of oY hy1
   have sY:=vI_take_succ hy1
   have ca:=add32_a a y c la ly ⟨c0,by omega⟩
   have hms:intsA .u32 ((r++[(a+y+c) % 4294967296])++(limbs X).drop (i+1))=(intsA .u32 (r++(limbs X).drop i)).set i [u32A ((a+y+c) % 4294967296)]:=by rw [intsA_set,hset]
   refine wk5 ?_
   refine ⟨(i+1,(a+y+c) / 4294967296,r++[(a+y+c) % 4294967296]),by dsimp only; omega,⟨by dsimp only; omega,by simp [hr],or.snoc (by omega) (by omega),?_,?_⟩,wkR hC.m [] (by dsimp only [rowU]; rw [hms]; rfl)⟩
   ·obtain ⟨l1,l2⟩:=la
    obtain ⟨l3,l4⟩:=ly
    dsimp only; omega
   ·dsimp only
    rw [sX,sY,vI_snoc,hr,BB_succ]
    have:=Int.emod_add_mul_ediv (a+y+c) 4294967296
    grind
  ·by_cases hc0:c=0
   ·subst hc0
    have hv:vI (r++(limbs X).drop i)=((X+Y:Nat):Int):=by
     rw [vI_append,hr]
     have:=vI_split (limbs X) hi
     rw [List.take_of_length_le (show (limbs Y).length≤i by omega)] at hE
     rw [Int.mul_zero] at hE
     omega
    have he:=limbs_of (or.app (oX.drop i)) hv (by
     rw [hml]
     by_cases h0:X=0
     ·left; subst h0; rw [limbs_zero]; rfl
     ·right
      have:=limbs_ge h0
      omega)
    refine wk5 ?_
    rw [← he]
    exact fin
   ·obtain rfl:c=1:=by omega
    have ca:=add32_a a 0 1 la ⟨by omega,by omega⟩ ⟨by omega,by omega⟩
    have hms:intsA .u32 ((r++[(a+0+1) % 4294967296])++(limbs X).drop (i+1))=(intsA .u32 (r++(limbs X).drop i)).set i [u32A ((a+0+1) % 4294967296)]:=by rw [intsA_set,hset]
    refine wk5 ?_
    refine ⟨(i+1,(a+0+1) / 4294967296,r++[(a+0+1) % 4294967296]),by dsimp only; omega,⟨by dsimp only; omega,by simp [hr],or.snoc (by omega) (by omega),?_,?_⟩,wkR hC.m [] (by dsimp only [rowU]; rw [hms]; rfl)⟩
    ·obtain ⟨l1,l2⟩:=la
     dsimp only; omega
    ·dsimp only
     rw [sX,vI_snoc,hr,BB_succ]
     rw [List.take_of_length_le (show (limbs Y).length≤i+1 by omega)]
     rw [List.take_of_length_le (show (limbs Y).length≤i by omega)] at hE
     have:=Int.emod_add_mul_ediv (a+0+1) 4294967296
     grind
 ·have hiX:i=(limbs X).length:=by omega
  rw [List.take_of_length_le (show (limbs Y).length≤i by omega),List.take_of_length_le (show (limbs X).length≤i by omega),vX,vY] at hE
  have hd:(limbs X).drop i=[]:=List.drop_eq_nil_of_le (by omega)
  rw [hd,List.append_nil] at *
  by_cases hc0:c=0
  ·subst hc0
   have he:=limbs_of (V:=X+Y) or (by rw [Int.mul_zero] at hE; omega) (by
    rw [hr]
    by_cases h0:X=0
    ·left; subst h0; rw [hiX,limbs_zero]; rfl
    ·right
     have:=limbs_ge h0
     rw [hiX]
     omega)
   refine wk5 ?_
   rw [← he]
   exact fin
  ·obtain rfl:c=1:=by omega
   have he:=limbs_of (xs:=r++[1]) (V:=X+Y) (or.snoc (by omega) (by omega)) (by rw [vI_snoc,hr]; omega) (by
    right
    rw [List.length_append,hr,List.length_singleton,Nat.add_sub_cancel]
    omega)
   have hms:intsA .u32 (limbs (X+Y))=intsA .u32 r++[[u32A 1]]:=by rw [← he]; simp [intsA]
   have lr:=intsA_len .u32 r
   have hbb:((intsA .u32 r).length+1) * 4≤140737488355328:=by omega
   refine wk5 ?_
   rw [hms]
   exact fin
theorem nadd_a (xs ys:List Int) (hx:limOK xs) (hy:limOK ys) (lx:xs.length≤100000) (ly:ys.length≤100000):ACalls Tryz.prog 249 [.sl 1 (intsA .u32 xs),.sl 1 (intsA .u32 ys)] (.sl 1 (intsA .u32 (limbs (valL xs+valL ys)))):=by
 have c1:=trim_of hx
 have c2:=trim_of hy
 have t1:=trimI_len xs
 have t2:=trimI_len ys
 rw [trimI_limbs hx] at t1
 rw [trimI_limbs hy] at t2
 generalize valL xs=X at *
 generalize valL ys=Y at *
 have lX:=intsA_len .u32 (limbs X)
 have lY:=intsA_len .u32 (limbs Y)
 refine acalls_of code_nat_Add (by simp [fn_nat_Add]) fun C hC => ?_
 by_cases h:(limbs X).length<(limbs Y).length
 ·have w:=addRest_w hC Y X (by omega) (by omega)
  rw [Nat.add_comm] at w
  refine aw_seq ?_
  refine aw_reg (rrun5 ?_)
  refine rg_nil ⟨rfl,?_⟩
  refine aw_seq ?_
  refine aw_reg (rrun5 ?_)
  refine rg_nil ⟨rfl,?_⟩
  refine aw_seq ?_
  refine aw_seq ?_
  refine aw_reg (rrun5 ?_)
  refine rg_nil ⟨rfl,?_⟩
  refine aw_cond_t rfl ?_
  refine aw_reg (rrun5 ?_)
  refine rg_nil ⟨rfl,?_⟩
  exact aw_keepX [0,1,4] [] 0 w
 ·have w:=addRest_w hC X Y (by omega) (by omega)
  refine aw_seq ?_
  refine aw_reg (rrun5 ?_)
  refine rg_nil ⟨rfl,?_⟩
  refine aw_seq ?_
  refine aw_reg (rrun5 ?_)
  refine rg_nil ⟨rfl,?_⟩
  refine aw_seq ?_
  refine aw_seq ?_
  refine aw_reg (rrun5 ?_)
  refine rg_nil ⟨rfl,?_⟩
  refine aw_cond_f rfl ?_
  refine aw_skip ?_
  exact aw_keepX [0,1,4] [] 0 w
end Go.Proofs.YtnnipocjapblkaaGreat
