/- Natural numbers of the program: so many times a divisor off, and back. -/
import Derived.Test.YtnnipocjapblkaaGreatK10
import Derived.Test.YtnnipocjapblkaaGreatK11
set_option maxRecDepth 10000
set_option maxHeartbeats 4000000
namespace Go.Proofs.YtnnipocjapblkaaGreat
set_option linter.unusedVariables false
open Go.RowKit
def win (ys:List Int) (off n:Nat):List Int:=(ys.drop off).take n
theorem win_len {ys:List Int} {off n:Nat} (h:off+n≤ys.length):(win ys off n).length=n:=by simp [win]; omega
theorem win_at {ys:List Int} {off n i:Nat} (h:i<n):(win ys off n)[i]? = ys[off+i]? := by
 rw [win,List.getElem?_take,if_pos h,List.getElem?_drop]
theorem win_ok {ys:List Int} (h:limOK ys) (off n:Nat):limOK (win ys off n):=(h.drop off).take n
def putW2 (ys:List Int) (off n:Nat) (r:List Int):List Int:=ys.take off++r++ys.drop (off+n)
theorem times_lim {g x c:Int} (g0:0≤g) (g1:g≤4294967296) (hx:lim1 x) (hc:lim1 c):0≤g * x∧g * x≤18446744069414584320:=by
 obtain ⟨x0,x1⟩:=hx
 have h1:=Int.mul_nonneg g0 x0
 have h2:=Int.mul_le_mul g1 (show x≤4294967295 by omega) x0 (by omega)
 omega
theorem takeOff_m (ys ds:List Int) (off n:Nat) (g:Int) (hy:limOK ys) (hd:limOK ds) (ld:ds.length=n) (hn:n≤100000) (ly:off+n+1≤ys.length) (g0:0≤g) (g1:g≤4294967296) :
 AMut Tryz.prog 260 [.osl 0 off (n+1),.sl 1 (intsA .u32 ds),u64A g] [(0,some (rowU ys))] 1 (.lit (.bool (decide (vI (win ys off (n+1))<g * vI ds))))
  [(0,some (rowU (putW2 ys off (n+1) (digs (n+1) ((vI (win ys off (n+1)) - g * vI ds) % BB (n+1))))))] 1:=by
 have lD:=intsA_len .u32 ds
 rw [ld] at lD
 have hwl:=win_len (ys:=ys) (off:=off) (n:=n+1) (by omega)
 have hwo:=win_ok hy off (n+1)
 have hwi:∀ i,i<n+1→(win ys off (n+1))[i]? = ys[off+i]? := fun i h=>win_at h
 generalize hw:win ys off (n+1)=w at *
 refine amut_of code_nat_takeOff (by simp [fn_nat_takeOff]) fun C hC => ?_
 refine wk5 ?_
 refine aw_es 0 (intsA .u32 ((ys.take off++[])++ys.drop (off+0))) rfl (by dsimp only; rw [List.append_nil,Nat.add_zero,List.take_append_drop]) ?_
 refine aw_loopB [0,1,2,6,13,14] [] (fun x:Nat × Int × Int × List Int=>[(7,u64A x.2.1),(8,u32A x.2.2.1),(15,nA x.1)]) (fun x=>[(0,some (rowU ((ys.take off++x.2.2.2)++ys.drop (off+x.1))))]) 1
  (fun x=>x.1≤n∧x.2.2.2.length=x.1∧limOK x.2.2.2∧lim1 x.2.1∧(0≤x.2.2.1∧x.2.2.1≤1)∧vI (w.take x.1) - g * vI (ds.take x.1)=vI x.2.2.2 - BB x.1 * (x.2.1+x.2.2.1)) (fun x=>n - x.1) (0,0,0,[]) ⟨Nat.zero_le _,rfl,limOK.nil,⟨by simp,by simp⟩,⟨by simp,by simp⟩,by simp [vI]⟩ ?_
 rintro ⟨i,c,b,r⟩ ⟨hi,hr,or,lc,⟨b0,b1⟩,hE⟩
 dsimp only [List.cons_append,List.nil_append] at hi hr or lc b0 b1 hE ⊢
 have hrr:(ys.take off++r).length=off+i:=by simp [hr]; omega
 have hml:=mix_len (xs:=ys) hrr (by omega)
 have lM:=intsA_len .u32 ((ys.take off++r)++ys.drop (off+i))
 obtain ⟨a,ha⟩:∃ a,ys[off+i]? = some a:=⟨_,List.getElem?_eq_getElem (by omega)⟩
 have hak:(intsA .u32 ((ys.take off++r)++ys.drop (off+i)))[off+i]? = some [u32A a]:=int_at ((mix_at hrr).trans ha)
 have la:=lim1_of hy ha
 have sX:=vI_take_succ ((hwi i (by omega)).trans ha)
 have hset:=fun v=>mix_set (xs:=ys) hrr (by omega) v
 obtain ⟨c0,c1⟩:=lc
 by_cases hlt:i<n
 ·obtain ⟨x,hx⟩:∃ x,ds[i]? = some x:=⟨_,List.getElem?_eq_getElem (by omega)⟩
  have hxk:(intsA .u32 ds)[i]? = some [u32A x]:=int_at hx
  have lx:=lim1_of hd hx
  have sD:=vI_take_succ hx
  obtain ⟨m0,m1⟩:=times_lim g0 g1 lx ⟨c0,c1⟩
  have hcv:IntKind.u32.wrap (g * x+c)=(g * x+c) % 4294967296:=rfl
  obtain ⟨e1,e2,e3⟩:=subC_eq la (show lim1 ((g * x+c) % 4294967296) from ⟨by omega,by omega⟩) b0 b1
  have ca:=sub32_a a ((g * x+c) % 4294967296) b la ⟨by omega,by omega⟩ b0 b1
  have hms:intsA .u32 ((ys.take off++(r++[(a - (g * x+c) % 4294967296 - b) % 4294967296]))++ys.drop (off+(i+1)))=(intsA .u32 ((ys.take off++r)++ys.drop (off+i))).set (off+i) [u32A ((a - (g * x+c) % 4294967296 - b) % 4294967296)]:=by
   rw [intsA_set,hset,← List.append_assoc]; rfl
  obtain ⟨x0,x1⟩:=lx
  refine wk5 ?_
  refine ⟨(i+1,(g * x+c) / 4294967296,subC a ((g * x+c) % 4294967296) b,r++[(a - (g * x+c) % 4294967296 - b) % 4294967296]),by dsimp only; omega,⟨by dsimp only; omega,by simp [hr],or.snoc (by omega) (by omega),⟨by dsimp only; omega,by dsimp only; omega⟩,⟨e2,e3⟩,?_⟩,wkR hC.m [] (by dsimp only [rowU]; rw [hms]; rfl)⟩
  dsimp only
  rw [sX,sD,vI_snoc,hr,BB_succ]
  have:=Int.emod_add_mul_ediv (g * x+c) 4294967296
  clear hms hset hml hwi hak ca lM hrr
  grind
 ·obtain rfl:i=n:=by omega
  have hcv:IntKind.u32.wrap c=c:=u32_in _ c0 (by omega)
  obtain ⟨e1,e2,e3⟩:=subC_eq la (show lim1 c from ⟨c0,c1⟩) b0 b1
  have ca:=sub32_a a c b la ⟨c0,c1⟩ b0 b1
  rw [List.take_of_length_le (show w.length≤i+1 by omega)] at sX
  rw [List.take_of_length_le (show ds.length≤i by omega)] at hE
  have hms:intsA .u32 ((ys.take off++(r++[(a - c - b) % 4294967296]))++ys.drop (off+(i+1)))=(intsA .u32 ((ys.take off++r)++ys.drop (off+i))).set (off+i) [u32A ((a - c - b) % 4294967296)]:=by
   rw [intsA_set,hset,← List.append_assoc]; rfl
  have orr:limOK (r++[(a - c - b) % 4294967296]):=or.snoc (by omega) (by omega)
  have hlr:(r++[(a - c - b) % 4294967296]).length=i+1:=by simp [hr]
  have hv:vI w - g * vI ds=vI (r++[(a - c - b) % 4294967296]) - BB (i+1) * subC a c b:=by
   rw [sX,vI_snoc,hr,BB_succ]
   clear hms hset hml hwi hak ca lM hrr
   grind
  have n0:=vI_nonneg orr
  have n1:=vI_lt orr
  rw [hlr] at n1
  have hmod:(vI w - g * vI ds) % BB (i+1)=vI (r++[(a - c - b) % 4294967296]):=by
   rw [hv,Int.sub_mul_emod_self_left]
   exact Int.emod_eq_of_lt n0 n1
  have hdg:=digs_of orr hlr rfl
  have hbool:(decide (vI w<g * vI ds))=(subC a c b != 0):=by
   have:vI w<g * vI ds↔subC a c b≠0:=by
    constructor
    ·intro h he
     rw [he,Int.mul_zero] at hv
     omega
    ·intro h
     have:subC a c b=1:=by omega
     rw [this,Int.mul_one] at hv
     omega
   rw [Bool.eq_iff_iff,decide_eq_true_iff,bne_iff_ne]; exact this
  rw [hmod,← hdg,hbool,putW2]
  refine wk5 ?_
  exact fin_m [] (hh:=by dsimp only [rowU]; rw [hms]; rfl)
theorem putBack_m (ys ds:List Int) (off n:Nat) (hy:limOK ys) (hd:limOK ds) (ld:ds.length=n) (hn:n≤100000) (ly:off+n+1≤ys.length) :
 AMut Tryz.prog 261 [.osl 0 off (n+1),.sl 1 (intsA .u32 ds)] [(0,some (rowU ys))] 1 (.tup [])
  [(0,some (rowU (putW2 ys off (n+1) (digs (n+1) ((vI (win ys off (n+1))+vI ds) % BB (n+1))))))] 1:=by
 have lD:=intsA_len .u32 ds
 rw [ld] at lD
 have hwl:=win_len (ys:=ys) (off:=off) (n:=n+1) (by omega)
 have hwo:=win_ok hy off (n+1)
 have hwi:∀ i,i<n+1→(win ys off (n+1))[i]? = ys[off+i]? := fun i h=>win_at h
 generalize hw:win ys off (n+1)=w at *
 refine amut_of code_nat_putBack (by simp [fn_nat_putBack]) fun C hC => ?_
 refine wk5 ?_
 refine aw_es 0 (intsA .u32 ((ys.take off++[])++ys.drop (off+0))) rfl (by dsimp only; rw [List.append_nil,Nat.add_zero,List.take_append_drop]) ?_
 refine aw_loopB [0,1,7,8] [] (fun x:Nat × Int × List Int=>[(4,u32A x.2.1),(9,nA x.1)]) (fun x=>[(0,some (rowU ((ys.take off++x.2.2)++ys.drop (off+x.1))))]) 1
  (fun x=>x.1≤n∧x.2.2.length=x.1∧limOK x.2.2∧(0≤x.2.1∧x.2.1≤1)∧vI (w.take x.1)+vI (ds.take x.1)=vI x.2.2+BB x.1 * x.2.1) (fun x=>n - x.1) (0,0,[]) ⟨Nat.zero_le _,rfl,limOK.nil,⟨by simp,by simp⟩,by simp [vI]⟩ ?_
 rintro ⟨i,b,r⟩ ⟨hi,hr,or,⟨b0,b1⟩,hE⟩
 dsimp only [List.cons_append,List.nil_append] at hi hr or b0 b1 hE ⊢
 have hrr:(ys.take off++r).length=off+i:=by simp [hr]; omega
 have hml:=mix_len (xs:=ys) hrr (by omega)
 have lM:=intsA_len .u32 ((ys.take off++r)++ys.drop (off+i))
 obtain ⟨a,ha⟩:∃ a,ys[off+i]? = some a:=⟨_,List.getElem?_eq_getElem (by omega)⟩
 have hak:(intsA .u32 ((ys.take off++r)++ys.drop (off+i)))[off+i]? = some [u32A a]:=int_at ((mix_at hrr).trans ha)
 have la:=lim1_of hy ha
 have sX:=vI_take_succ ((hwi i (by omega)).trans ha)
 have hset:=fun v=>mix_set (xs:=ys) hrr (by omega) v
 by_cases hlt:i<n
 ·obtain ⟨x,hx⟩:∃ x,ds[i]? = some x:=⟨_,List.getElem?_eq_getElem (by omega)⟩
  have hxk:(intsA .u32 ds)[i]? = some [u32A x]:=int_at hx
  have lx:=lim1_of hd hx
  have sD:=vI_take_succ hx
  have ca:=add32_a a x b la lx ⟨b0,by omega⟩
  have hms:intsA .u32 ((ys.take off++(r++[(a+x+b) % 4294967296]))++ys.drop (off+(i+1)))=(intsA .u32 ((ys.take off++r)++ys.drop (off+i))).set (off+i) [u32A ((a+x+b) % 4294967296)]:=by
   rw [intsA_set,hset,← List.append_assoc]; rfl
  obtain ⟨x0,x1⟩:=lx
  obtain ⟨a0,a1⟩:=la
  refine wk5 ?_
  refine ⟨(i+1,(a+x+b) / 4294967296,r++[(a+x+b) % 4294967296]),by dsimp only; omega,⟨by dsimp only; omega,by simp [hr],or.snoc (by omega) (by omega),⟨by dsimp only; omega,by dsimp only; omega⟩,?_⟩,wkR hC.m [] (by dsimp only [rowU]; rw [hms]; rfl)⟩
  dsimp only
  rw [sX,sD,vI_snoc,hr,BB_succ]
  have:=Int.emod_add_mul_ediv (a+x+b) 4294967296
  clear hms hset hml hwi hak ca lM hrr
  grind
 ·obtain rfl:i=n:=by omega
  rw [List.take_of_length_le (show w.length≤i+1 by omega)] at sX
  rw [List.take_of_length_le (show ds.length≤i by omega)] at hE
  have hadd:absInt .add .u32 a b=some (.int .u32 ((a+b) % 4294967296)):=rfl
  have hms:intsA .u32 ((ys.take off++(r++[(a+b) % 4294967296]))++ys.drop (off+(i+1)))=(intsA .u32 ((ys.take off++r)++ys.drop (off+i))).set (off+i) [u32A ((a+b) % 4294967296)]:=by
   rw [intsA_set,hset,← List.append_assoc]; rfl
  obtain ⟨a0,a1⟩:=la
  have orr:limOK (r++[(a+b) % 4294967296]):=or.snoc (by omega) (by omega)
  have hlr:(r++[(a+b) % 4294967296]).length=i+1:=by simp [hr]
  have n0:=vI_nonneg orr
  have n1:=vI_lt orr
  rw [hlr] at n1
  have hmod:(vI w+vI ds) % BB (i+1)=vI (r++[(a+b) % 4294967296]):=by
   have hv:vI w+vI ds=vI (r++[(a+b) % 4294967296])+BB (i+1) * ((a+b) / 4294967296):=by
    rw [sX,vI_snoc,hr,BB_succ]
    have:=Int.emod_add_mul_ediv (a+b) 4294967296
    clear hms hset hml hwi hak lM hrr
    grind
   rw [hv,Int.add_mul_emod_self_left]
   exact Int.emod_eq_of_lt n0 n1
  have hdg:=digs_of orr hlr rfl
  rw [hmod,← hdg,putW2]
  refine wk5 ?_
  exact fin_m [] (hh:=by dsimp only [rowU]; rw [hms]; rfl)
section
variable {P:Program} {tt:List (Nat × AV)} {hh:Hp} {nn dd:Nat} {g:Option (Nat × Bool)} {l:List AInst} {acc:List SD} {K:List SD→St→Prop}
theorem r_sliceV {sz:Nat} {x:Operand} {lo hi:Option Operand} {id:Nat} {ob:OB} (a n:Nat) (h:RG P (⟨⟨some dd,g,.slice sz x lo hi none⟩,.osl id a n,[id],[],0⟩::acc) l ⟨(dd,.osl id a n)::tt,hh,nn⟩ K) (hg:gOK ⟨tt,hh,nn⟩ g:=by first|exact True.intro|rfl) (hx:ev ⟨tt,hh,nn⟩ x=.own id:=by rfl) (ho:hl hh id=some ob:=by rfl) (hrow:ob.row=true:=by rfl) (hsz:ob.sz=sz:=by rfl) (h2:a+n≤ob.es.length:=by first|omega|(dsimp only [rowU]; omega)) (h3:a<ob.es.length:=by first|omega|(dsimp only [rowU]; omega))
 (hlo:bndA ⟨tt,hh,nn⟩ lo 0 a:=by first|exact rfl|exact ⟨_,rfl⟩|exact ⟨.i64,congrArg (fun z=>AV.lit (Value.int IntKind.i64 z)) (by omega)⟩) (hhi:bndA ⟨tt,hh,nn⟩ hi ob.es.length (a+n:Nat):=by first|exact rfl|exact ⟨.i64,congrArg (fun z=>AV.lit (Value.int IntKind.i64 z)) (by omega)⟩):RG P acc (⟨some dd,g,.slice sz x lo hi none⟩::l) ⟨tt,hh,nn⟩ K :=
  RG.step ((q_sliceW hg hx ho hrow hsz hlo hhi (by omega) h2 h3).cast (by rw [Nat.add_sub_cancel_left])) h
end
theorem putW2_len {ys r:List Int} {off n:Nat} (hr:r.length=n) (h:off+n≤ys.length):(putW2 ys off n r).length=ys.length:=by simp [putW2,hr]; omega
theorem putW2_ok {ys r:List Int} (hy:limOK ys) (hr:limOK r) (off n:Nat):limOK (putW2 ys off n r):=((hy.take off).app hr).app (hy.drop _)
theorem putW2_take {ys r:List Int} {off n:Nat} (h:off+n≤ys.length):(putW2 ys off n r).take off=ys.take off:=by
 rw [putW2,List.append_assoc,List.take_append_of_le_length (by simp; omega),List.take_take,Nat.min_self]
theorem putW2_drop {ys r:List Int} {off n:Nat} (h:off+n≤ys.length):(putW2 ys off n r).drop off=r++ys.drop (off+n):=by
 rw [putW2,List.append_assoc,List.drop_append_of_le_length (by simp; omega),List.drop_eq_nil_of_le (by simp; omega),List.nil_append]
theorem putW2_win {ys r:List Int} {off n:Nat} (hr:r.length=n) (h:off+n≤ys.length):win (putW2 ys off n r) off n=r:=by
 rw [win,putW2_drop h,List.take_append_of_le_length (by omega),List.take_of_length_le (by omega)]
theorem putW2_put {ys r s:List Int} {off n:Nat} (hr:r.length=n) (h:off+n≤ys.length):putW2 (putW2 ys off n r) off n s=putW2 ys off n s:=by
 have h1:=putW2_take (r:=r) h
 have h2:(putW2 ys off n r).drop (off+n)=ys.drop (off+n):=by
  rw [putW2,List.drop_append_of_le_length (by simp [hr]; omega),List.drop_eq_nil_of_le (by simp [hr]; omega),List.nil_append]
 show (putW2 ys off n r).take off++s++(putW2 ys off n r).drop (off+n)=_
 rw [h1,h2]; rfl
theorem digs_take:∀ (n:Nat) (V:Int),(digs (n+1) V).take n=digs n V
 | 0,V=>rfl
 | n+1,V=>by
   rw [digs,List.take_succ_cons,digs_take n]; rfl
theorem win_val {ys:List Int} {k n:Nat} (h:k+n≤ys.length):vI (ys.drop k)=vI (win ys k n)+BB n * vI (ys.drop (k+n)):=by
 have:=vI_split (ys.drop k) (k:=n) (by simp; omega)
 rw [List.drop_drop] at this
 exact this
structure LongSt (N D:Int) (m n k:Nat) (R q:List Int):Prop where
 le:k+n≤m+1
 lq:q.length+k+n=m+1
 oq:limOK q
 lR:R.length=m+1
 oR:limOK R
 top:vI (R.drop k)<D
 val:N=vI R+D * (BB k * vI q)
theorem LongSt.step {N D:Int} {m n k:Nat} {R q:List Int} (L:LongSt N D m n (k+1) R q) (hD:D<BB n) (hD0:0<D) :
 vI (win R k (n+1))<D * 4294967296∧∀ Q:Int,0≤Q→Q<4294967296→0≤vI (win R k (n+1)) - Q * D→vI (win R k (n+1)) - Q * D<D →
  LongSt N D m n k (putW2 R k (n+1) (digs (n+1) (vI (win R k (n+1)) - Q * D))) (Q::q):=by
 obtain ⟨le,lq,oq,lR,oR,top,val⟩:=L
 have hw:=win_val (ys:=R) (k:=k) (n:=n+1) (by omega)
 have h1:=List.drop_eq_getElem_cons (l:=R) (i:=k) (by omega)
 have ok:=oR _ (List.getElem_mem (l:=R) (n:=k) (by omega))
 have hT:vI (R.drop k)=R[k]+4294967296 * vI (R.drop (k+1)):=by rw [h1,vI]
 have hT1:vI (R.drop k)<D * 4294967296:=by omega
 have nz:=vI_nonneg (oR.drop (k+(n+1)))
 have hB:D * 4294967296<BB (n+1):=by rw [BB_succ]; omega
 have nw:=vI_nonneg (win_ok oR k (n+1))
 have pB:=BB_pos (n+1)
 have hz:vI (R.drop (k+(n+1)))=0:=by
  refine Int.not_lt.1 (fun hc => ?_) |> fun h=>Int.le_antisymm h nz
  have:=Int.mul_le_mul_of_nonneg_left (show (1:Int)≤vI (R.drop (k+(n+1))) by omega) (Int.le_of_lt pB)
  omega
 rw [hz,Int.mul_zero,Int.add_zero] at hw
 refine ⟨by omega,fun Q q0 q1 w0 w1=>⟨by omega,by simp; omega,fun z hz => ?_,by rw [putW2_len (digs_len _ _) (by omega)]; exact lR,putW2_ok oR (digs_ok _ _) _ _,?_,?_⟩⟩
 ·rcases List.mem_cons.1 hz with rfl|hz
  ·exact ⟨q0,q1⟩
  ·exact oq z hz
 ·rw [putW2_drop (by omega),vI_append,hz,Int.mul_zero,Int.add_zero,digs_val _ _ w0 (by omega)]
  exact w1
 ·have s1:=vI_split (putW2 R k (n+1) (digs (n+1) (vI (win R k (n+1)) - Q * D))) (k:=k) (by rw [putW2_len (digs_len _ _) (by omega)]; omega)
  rw [putW2_take (by omega),putW2_drop (by omega),vI_append,hz,Int.mul_zero,Int.add_zero,digs_val _ _ w0 (by omega)] at s1
  have s2:=vI_split R (k:=k) (by omega)
  rw [hw] at s2
  rw [val,s1,s2,vI,BB_succ]
  grind
structure LongIn (X Y:Nat) (n:Nat) (s:Nat) (P d1:Int):Prop where
 shf:Shf s P
 n2:2≤n
 lY:(limbs Y).length=n
 lt:(Y:Int) * P<BB n
 top:(digs n ((Y:Int) * P))[n - 1]? = some d1
 big:2147483648≤d1
 ge:BB (n - 1) * P≤(Y:Int) * P
theorem longIn {X Y n s:Nat} {x:Int} (hn:(limbs Y).length=n) (n2:2≤n) (hx:(limbs Y)[n - 1]? = some x) (hs:s≤31) (h1:2147483648≤x * ((2 ^ s:Nat):Int)) (h2:x * ((2 ^ s:Nat):Int)<4294967296) :
 ∃ d1,LongIn X Y n s ((2 ^ s:Nat):Int) d1:=by
 have hS:Shf s ((2 ^ s:Nat):Int):=⟨hs,rfl⟩
 have hp:=hS.pos
 obtain ⟨Q,hQ⟩:=hS.dvd
 have hS':=hS
 generalize ((2 ^ s:Nat):Int)=P at *
 have hv:=vI_take_succ hx
 rw [show n - 1+1=n from by omega,List.take_of_length_le (by omega),vI_limbs] at hv
 have b1:=vI_lt ((limbs_ok Y).take (n - 1))
 rw [List.length_take,Nat.min_eq_left (by omega)] at b1
 have b0:=vI_nonneg ((limbs_ok Y).take (n - 1))
 have pW:=BB_pos (n - 1)
 have x0:=(lim1_of (limbs_ok Y) hx).1
 generalize vI ((limbs Y).take (n - 1))=yL at *
 have hxQ:x+1≤Q:=by
  have hq:x * P<Q * P:=by rw [Int.mul_comm Q P,hQ]; exact h2
  have:=Int.lt_of_mul_lt_mul_right hq (Int.le_of_lt hp)
  omega
 have hBn:BB n=BB (n - 1) * 4294967296:=by rw [← BB_succ]; congr 1; omega
 have hlt:(Y:Int) * P<BB n:=by
  have u1:=Int.mul_le_mul_of_nonneg_left hxQ (Int.le_of_lt pW)
  have u2:=Int.mul_lt_mul_of_pos_right (show (Y:Int)<BB (n - 1) * Q by rw [hv]; rw [Int.mul_add] at u1; omega) hp
  rw [hBn,← hQ]
  grind
 have hd:=digs_len n ((Y:Int) * P)
 have hdv:=digs_val n ((Y:Int) * P) (Int.mul_nonneg (by omega) (Int.le_of_lt hp)) hlt
 obtain ⟨d1,hd1⟩:∃ d,(digs n ((Y:Int) * P))[n - 1]? = some d:=⟨_,List.getElem?_eq_getElem (by omega)⟩
 have dv:=vI_take_succ hd1
 rw [show n - 1+1=n from by omega,List.take_of_length_le (by omega),hdv] at dv
 have c1:=vI_lt ((digs_ok n ((Y:Int) * P)).take (n - 1))
 rw [List.length_take,Nat.min_eq_left (by omega)] at c1
 refine ⟨d1,hS',n2,hn,hlt,hd1,?_,?_⟩
 ·refine Int.not_lt.1 fun hc => ?_
  have u1:=Int.mul_le_mul_of_nonneg_left (show d1+1≤x * P by omega) (Int.le_of_lt pW)
  have u2:BB (n - 1) * (x * P)≤(Y:Int) * P:=by
   rw [hv]
   have:=Int.mul_nonneg b0 (Int.le_of_lt hp)
   grind
  rw [Int.mul_add] at u1
  omega
 ·have x1:1≤x:=by
   refine Int.not_lt.1 fun hc => ?_
   have:x=0:=by omega
   rw [this] at h1
   omega
  have u1:=Int.mul_le_mul_of_nonneg_left x1 (Int.le_of_lt pW)
  exact Int.mul_le_mul_of_nonneg_right (by omega) (Int.le_of_lt hp)
theorem LongSt.last {X Y m n:Nat} {P N D:Int} {R q:List Int} (L:LongSt N D m n 0 R q) (hX:(X:Int) * P=N) (hY:(Y:Int) * P=D) (hp:0<P) (hD:D<BB n) :
 trimI q=limbs (X / Y)∧(vI (R.take n) / P).toNat=X % Y:=by
 obtain ⟨le,lq,oq,lR,oR,top,val⟩:=L
 have sp:=vI_split R (k:=n) (by omega)
 have n1:=vI_nonneg (oR.take n)
 have n2:=vI_nonneg (oR.drop n)
 have n3:=vI_nonneg oq
 have n4:=vI_nonneg oR
 rw [List.drop_zero] at top
 rw [BB_zero,Int.one_mul] at val
 have hz:vI (R.drop n)=0:=by
  refine Int.not_lt.1 (fun hc => ?_) |> fun h=>Int.le_antisymm h n2
  have:=Int.mul_le_mul_of_nonneg_left (show (1:Int)≤vI (R.drop n) by omega) (Int.le_of_lt (BB_pos n))
  omega
 rw [hz,Int.mul_zero,Int.add_zero] at sp
 rw [← sp]
 generalize vI R=r at *
 have e:r=((X:Int) - Y * vI q) * P:=by rw [Int.sub_mul,hX,val,← hY]; grind
 have r0:0≤(X:Int) - Y * vI q:=by
  refine Int.not_lt.1 fun hc => ?_
  have:=Int.mul_lt_mul_of_pos_right hc hp
  omega
 have r1:(X:Int) - Y * vI q<Y:=by
  rw [e,← hY] at top
  exact Int.lt_of_mul_lt_mul_right top (Int.le_of_lt hp)
 have hq:(X:Int) / Y=vI q:=by
  rw [show (X:Int)=((X:Int) - Y * vI q)+Y * vI q from by omega,Int.add_mul_ediv_left _ _ (by omega),Int.ediv_eq_zero_of_lt r0 r1,Int.zero_add]
 have hm:(X:Int) % Y=(X:Int) - Y * vI q:=by rw [← hq]; exact Int.emod_def _ _
 refine ⟨trim_val oq (by rw [← hq]; omega),?_⟩
 rw [e,Int.mul_ediv_cancel _ (by omega),← hm]
 omega
theorem long_a (X Y n m:Nat) (hn:(limbs Y).length=n) (hm:(limbs X).length=m) (n2:2≤n) (nm:n≤m) (hm5:m≤90000) :
 ACalls Tryz.prog 254 [.sl 1 (intsA .u32 (limbs X)),.sl 1 (intsA .u32 (limbs Y))] (.tup [.sl 1 (intsA .u32 (limbs (X / Y))),.sl 1 (intsA .u32 (limbs (X % Y)))]):=by
 have lX:=intsA_len .u32 (limbs X)
 have lY:=intsA_len .u32 (limbs Y)
 rw [hm] at lX
 rw [hn] at lY
 obtain ⟨x,hx⟩:∃ x,(limbs Y)[n - 1]? = some x:=⟨_,List.getElem?_eq_getElem (by omega)⟩
 have e1:((n:Int) - 1).toNat=n - 1:=by omega
 have hxk:(intsA .u32 (limbs Y))[((n:Int) - 1).toNat]? = some [u32A x]:=by rw [e1]; exact int_at hx
 obtain ⟨x0,x1⟩:=lim1_of (limbs_ok Y) hx
 have xp:0<x:=by
  refine Int.not_le.1 fun hc => ?_
  have:x=0:=by omega
  subst this
  have hv:=vI_take_succ hx
  rw [show n - 1+1=n from by omega,List.take_of_length_le (by omega),vI_limbs,Int.mul_zero,Int.add_zero] at hv
  have b1:=vI_lt ((limbs_ok Y).take (n - 1))
  rw [List.length_take,Nat.min_eq_left (by omega),← hv] at b1
  have:=limbs_len_lt b1
  omega
 obtain ⟨xn,rfl⟩:=Int.eq_ofNat_of_zero_le x0
 obtain ⟨s,cl,hs,h31,h32⟩:=lead32_a xn (by omega) (by omega)
 obtain ⟨d1,L⟩:=longIn (X:=X) hn n2 hx hs (by rw [← Int.natCast_mul]; omega) (by rw [← Int.natCast_mul]; omega)
 generalize ((2 ^ s:Nat):Int)=P at *
 obtain ⟨shf,_,_,hlt,htop,hbig,hge⟩:=L
 have hp:=shf.pos
 have hpl:=shf.le
 have cu:=up_m (limbs Y) s P shf (limbs_ok Y) (by omega)
 have cv:=up_m (limbs X) s P shf (limbs_ok X) (by omega)
 rw [vI_limbs,hn] at cu
 rw [vI_limbs,hm] at cv
 have hY0:Y≠0:=fun h=>by rw [h,limbs_zero] at hn; simp at hn; omega
 have hD0:0<(Y:Int) * P:=Int.mul_pos (by omega) hp
 generalize hDD:(Y:Int) * P=D at *
 generalize hNN:(X:Int) * P=N at *
 have ldD:=digs_len n D
 have ldD1:=intsA_len .u32 (digs (n+1) D)
 rw [digs_len] at ldD1
 have ldN:=digs_len (m+1) N
 have ldN1:=intsA_len .u32 (digs (m+1) N)
 rw [digs_len] at ldN1
 have em:((m:Int) - n+1).toNat=m - n+1:=by omega
 refine acalls_of code_nat_long (by simp [fn_nat_long]) fun C hC => ?_
 refine wk5 ?_
 refine r_callN [] cu ?_
 refine rrun5 ?_
 refine r_sliceO (ob:=rowU (digs (n+1) D)) (k:=n) (by show n≤(intsA .u32 (digs (n+1) D)).length; omega) ?_
 refine rrun5 ?_
 refine rg_nil ⟨rfl,?_⟩
 refine aw_es 1 (intsA .u32 (digs n D)) rfl (by show (intsA .u32 (digs (n+1) D)).take n=_; rw [intsA_take,digs_take]) ?_
 refine aw_freeze 1 rfl ?_
 refine aw_view 8 rfl rfl ?_
 refine aw_keepX [0,1,4,5,6,7,8] [] 2 (kt:=[(0,.sl 1 (intsA .u32 (limbs X))),(1,.sl 1 (intsA .u32 (limbs Y))),(4,nilS0),(5,nilS0),(6,nA n),(7,nA s),(8,.sl 1 (intsA .u32 (digs n D)))]) (kh:=[]) ?_
 have em2:((List.replicate ((m:Int) - n+1).toNat [u32A 0]).length:Int)=(m - n+1:Nat):=by rw [List.length_replicate,em]
 refine wk5 ?_
 refine r_callN [] cv ?_
 refine rrun5 ?_
 refine rg_nil ⟨rfl,?_⟩
 refine wk5 ?_
 refine aw_es 3 (intsA .u32 ((List.replicate (m - n+1) 0).take (m - n+1)++[])) rfl (by dsimp only; rw [em,List.append_nil,List.take_of_length_le (by simp),← intsA_rep]; rfl) ?_
 have ldD2:=digs_ok n D
 have hNB:N<BB (m+1):=by
  have b:=vI_lt (limbs_ok X)
  rw [vI_limbs,hm] at b
  have u1:=Int.mul_lt_mul_of_pos_right b hp
  have u2:=Int.mul_le_mul_of_nonneg_left (show P≤4294967296 by omega) (Int.le_of_lt (BB_pos m))
  rw [BB_succ]; omega
 have hN0:0≤N:=by rw [← hNN]; exact Int.mul_nonneg (by omega) (Int.le_of_lt hp)
 have hdN:=digs_val (m+1) N hN0 hNB
 have hdD:=digs_val n D (Int.le_of_lt hD0) hlt
 have hfirst:LongSt N D m n (m - n+1) (digs (m+1) N) []:=by
  refine ⟨by omega,by simp; omega,limOK.nil,digs_len _ _,digs_ok _ _,?_,by simp [vI,hdN]⟩
  have sp:=vI_split (digs (m+1) N) (k:=m - n+1) (by rw [digs_len]; omega)
  rw [hdN] at sp
  have n1:=vI_nonneg ((digs_ok (m+1) N).take (m - n+1))
  have pW:=BB_pos (m - n+1)
  refine Int.not_le.1 fun hc => ?_
  have u1:=Int.mul_le_mul_of_nonneg_left (Int.le_trans hge hc) (Int.le_of_lt pW)
  rw [← Int.mul_assoc,← BB_add,show m - n+1+(n - 1)=m from by omega] at u1
  have b:=vI_lt (limbs_ok X)
  rw [vI_limbs,hm] at b
  have u2:=Int.mul_lt_mul_of_pos_right b hp
  omega
 refine aw_loopB [0,1,4,5,6,7,8,9,10] [] (fun x:Nat × List Int × List Int=>[(11,nA ((x.1:Int) - 1))]) (fun x=>[(2,some (rowU x.2.1)),(3,some (rowU ((List.replicate (m - n+1) 0).take x.1++x.2.2)))]) 4
  (fun x=>LongSt N D m n x.1 x.2.1 x.2.2) (fun x=>x.1) (m - n+1,digs (m+1) N,[]) hfirst ?_
 rintro ⟨k,R,q⟩ L
 dsimp only [List.cons_append,List.nil_append] at L ⊢
 cases k with
 | zero =>
   obtain ⟨hq,hr⟩:=L.last hNN hDD hp hlt
   have hlR:=L.lR
   have lRR:=intsA_len .u32 R
   rw [hlR] at lRR
   have lqq:=intsA_len .u32 q
   have hlq:=L.lq
   have ct:=trim_a q
   rw [hq] at ct
   have cd:=down_a (R.take n) s P shf (L.oR.take n) (by simp; omega)
   rw [hr] at cd
   refine aw_es 3 (intsA .u32 q) rfl rfl ?_
   have cd':ACalls Tryz.prog 262 [.sl 1 (((intsA .u32 R).drop 0).take n),nA s] (.sl 1 (intsA .u32 (limbs (X % Y)))):=by rw [List.drop_zero,intsA_take]; exact cd
   refine wk5 ?_
   refine r_sliceV 0 n ?_
   refine rrun5 ?_
   refine rg_nil ⟨rfl,?_⟩
   refine wk5 ?_
   exact fin
 | succ k =>
   have hqle:=L.le
   have hlq:=L.lq
   have hoq:=L.oq
   have hlR:=L.lR
   have hoR:=L.oR
   have lRR:=intsA_len .u32 R
   rw [hlR] at lRR
   obtain ⟨hub,next⟩:=L.step hlt hD0
   have hwl:=win_len (ys:=R) (off:=k) (n:=n+1) (by omega)
   have hwo:=win_ok hoR k (n+1)
   obtain ⟨g,ce,g0,g1,lo,hi⟩:=est_a (win R k (n+1)) (digs n D) (n - 2) hwo ldD2 (by omega) (by omega) (by omega) d1 (by rw [show n - 2+1=n - 1 from by omega]; exact htop) hbig (by rw [hdD]; exact hub)
   rw [hdD] at lo hi
   have ce:ACalls Tryz.prog 259 [.sl 1 (((intsA .u32 R).drop k).take (n+1)),.sl 1 (intsA .u32 (digs n D))] (u64A g):=by rw [intsA_drop,intsA_take]; exact ce
   have ct:=takeOff_m R (digs n D) k n g hoR ldD2 ldD (by omega) (by omega) g0 g1
   rw [hdD] at ct
   have nw:=vI_nonneg hwo
   have hBn:D * 4294967296<BB (n+1):=by rw [BB_succ]; omega
   have hql:q.length+(k+1)=(List.replicate (m - n+1) (0:Int)).length:=by rw [List.length_replicate]; omega
   have hml:=mix2_len (xs:=List.replicate (m - n+1) 0) hql
   rw [List.length_replicate] at hml
   have lQ:=intsA_len .u32 ((List.replicate (m - n+1) 0).take (k+1)++q)
   rw [hml] at lQ
   have hzk:(intsA .u32 ((List.replicate (m - n+1) 0).take (k+1)++q))[((k:Nat):Int).toNat]? = some [u32A 0]:=by
    refine int_at ((mix2_at (by rw [List.length_replicate]; omega)).trans ?_)
    rw [List.getElem?_replicate,if_pos (by omega)]
   have hset:=fun v=>mix2_set (r:=q) (xs:=List.replicate (m - n+1) 0) (k:=k) (by rw [List.length_replicate]; omega) v
   have hms:∀ v:Int,intsA .u32 ((List.replicate (m - n+1) 0).take k++(v::q))=(intsA .u32 ((List.replicate (m - n+1) 0).take (k+1)++q)).set ((k:Nat):Int).toNat [u32A v]:=fun v=>by
    rw [intsA_set]
    exact congrArg (intsA .u32) (hset v).symm
   refine aw_slotZ 11 (nA k) (by show AV.lit (.int .i64 (((k+1:Nat):Int) - 1))=_; rw [show ((k+1:Nat):Int) - 1=k from by omega]) ?_
   by_cases hb:vI (win R k (n+1))<g * D
   ·
    rw [decide_eq_true hb] at ct
    have gp:0<g:=by
     refine Int.not_le.1 fun hc => ?_
     have:g=0:=by omega
     rw [this,Int.zero_mul] at hb
     omega
    have q0:0≤vI (win R k (n+1)) - (g - 1) * D:=by rw [Int.sub_mul]; omega
    have q1:vI (win R k (n+1)) - (g - 1) * D<D:=by rw [Int.sub_mul]; omega
    have cp:=putBack_m (putW2 R k (n+1) (digs (n+1) ((vI (win R k (n+1)) - g * D) % BB (n+1)))) (digs n D) k n (putW2_ok hoR (digs_ok _ _) _ _) ldD2 ldD (by omega) (by rw [putW2_len (digs_len _ _) (by omega)]; omega)
    rw [putW2_put (digs_len _ _) (by omega),putW2_win (digs_len _ _) (by omega),hdD,digs_val _ _ (Int.emod_nonneg _ (by have:=BB_pos (n+1); omega)) (Int.emod_lt_of_pos _ (BB_pos (n+1))),
     Int.emod_add_emod,show vI (win R k (n+1)) - g * D+D=vI (win R k (n+1)) - (g - 1) * D from by rw [Int.sub_mul]; omega,Int.emod_eq_of_lt q0 (by omega)] at cp
    have hcv:IntKind.u32.wrap (g - 1)=g - 1:=u32_in _ (by omega) (by omega)
    have lR1:=intsA_len .u32 (putW2 R k (n+1) (digs (n+1) ((vI (win R k (n+1)) - g * D) % BB (n+1))))
    rw [putW2_len (digs_len _ _) (by omega),hlR] at lR1
    refine wk5 ?_
    refine r_sliceV k (n+1) ?_
    refine rrun5 ?_
    refine rg_nil ⟨rfl,?_⟩
    refine wk5 ?_
    refine r_sliceV k (n+1) ?_
    refine rrun5 ?_
    refine r_callM [(2,0)] ct ?_
    refine rrun5 ?_
    refine rg_nil ⟨rfl,?_⟩
    refine wk5 ?_
    refine r_sliceV k (n+1) ?_
    refine rrun5 ?_
    refine r_callM [(2,0)] cp ?_
    refine rrun5 ?_
    refine rg_nil ⟨rfl,?_⟩
    refine wk5 ?_
    exact ⟨(k,putW2 R k (n+1) (digs (n+1) (vI (win R k (n+1)) - (g - 1) * D)),(g - 1)::q),by dsimp only; omega,next (g - 1) (by omega) (by omega) q0 q1,wkR hC.m [] (by dsimp only [rowU]; rw [hms]; rfl)⟩
   ·rw [decide_eq_false hb] at ct
    have q0:0≤vI (win R k (n+1)) - g * D:=by omega
    have q1:vI (win R k (n+1)) - g * D<D:=by rw [Int.add_mul] at lo; omega
    rw [Int.emod_eq_of_lt q0 (by omega)] at ct
    have gl:g<4294967296:=by
     refine Int.not_le.1 fun hc => ?_
     have:=Int.mul_le_mul_of_nonneg_right hc (Int.le_of_lt hD0)
     rw [Int.mul_comm 4294967296 D] at this
     omega
    have hcv:IntKind.u32.wrap g=g:=u32_in _ g0 (by omega)
    refine wk5 ?_
    refine r_sliceV k (n+1) ?_
    refine rrun5 ?_
    refine rg_nil ⟨rfl,?_⟩
    refine wk5 ?_
    refine r_sliceV k (n+1) ?_
    refine rrun5 ?_
    refine r_callM [(2,0)] ct ?_
    refine rrun5 ?_
    refine rg_nil ⟨rfl,?_⟩
    refine wk5 ?_
    exact ⟨(k,putW2 R k (n+1) (digs (n+1) (vI (win R k (n+1)) - g * D)),g::q),by dsimp only; omega,next g g0 gl q0 q1,wkR hC.m [] (by dsimp only [rowU]; rw [hms]; rfl)⟩
theorem limbs_word {X:Nat} (h:(limbs X).length≤2):X<18446744073709551616:=by
 have h1:=limbs_lt X
 have h2:=BB_mono h
 have h3:BB 2=18446744073709551616:=by rw [BB_succ,BB_succ,BB_zero]; rfl
 omega
theorem limbs_le_of {X Y:Nat} (h:Y≤X):(limbs Y).length≤(limbs X).length:=limbs_len_mono h
theorem ndiv_a (xs ys:List Int) (hx:limOK xs) (hy:limOK ys) (lx:xs.length≤90000) (h:valL ys≠0) :
 ACalls Tryz.prog 243 [.sl 1 (intsA .u32 xs),.sl 1 (intsA .u32 ys)] (.tup [.sl 1 (intsA .u32 (limbs (valL xs / valL ys))),.sl 1 (intsA .u32 (limbs (valL xs % valL ys))),.lit (.bool true)]):=by
 have c1:=trim_of hx
 have c2:=trim_of hy
 have lt:=trimI_len xs
 rw [trimI_limbs hx] at lt
 generalize valL xs=X at *
 generalize valL ys=Y at *
 have lX:=intsA_len .u32 (limbs X)
 have lY:=intsA_len .u32 (limbs Y)
 have c3:=ncmp_a (limbs X) (limbs Y) (limbs_ok X) (limbs_ok Y)
 rw [valL_limbs,valL_limbs] at c3
 obtain ⟨n,hn⟩:∃ n,(limbs Y).length=n:=⟨_,rfl⟩
 have n0:n≠0:=fun hc=>h (limbs_nil.1 (List.eq_nil_of_length_eq_zero (hn.trans hc)))
 rw [hn] at lY
 by_cases hlt:X<Y
 ·rw [cmpI,if_pos hlt] at c3
  have c4:=norm_of (limbs_ok X) (show (limbs X).length≤1000000000 by omega)
  rw [valL_limbs] at c4
  rw [Nat.div_eq_of_lt hlt,Nat.mod_eq_of_lt hlt,limbs_zero]
  refine acalls_of code_nat_DivMod (by simp [fn_nat_DivMod]) fun C hC => ?_
  refine wk5 ?_
  exact fin
 have c3':∃ z:Int,0≤z∧ACalls Tryz.prog 226 [.sl 1 (intsA .u32 (limbs X)),.sl 1 (intsA .u32 (limbs Y))] (.lit (.int .i64 z)):=⟨cmpI X Y,by unfold cmpI; split<;>(try split)<;>omega,c3⟩
 obtain ⟨z,z0,c3⟩:=c3'
 by_cases h1:n=1
 ·subst h1
  obtain ⟨y,hy1⟩:=List.length_eq_one_iff.1 hn
  have vy:y=(Y:Int):=by
   have:=vI_limbs Y
   rw [hy1] at this
   simpa [vI] using this
  have oy:=limbs_ok Y y (by rw [hy1]; simp)
  subst vy
  have hyk:(intsA .u32 (limbs Y))[(0:Int).toNat]? = some [u32A (Y:Int)]:=by rw [hy1]; rfl
  have cn:=norm_m (limbs X) (limbs_ok X) (by omega)
  rw [valL_limbs] at cn
  have cs:=shorten_m (limbs X) (Y:Int) (limbs_ok X) (by omega) oy (by omega)
  rw [vI_limbs] at cs
  have hv:=digs_val (limbs X).length ((X:Int) / (Y:Int)) (Int.ediv_nonneg (by omega) (by omega)) (by
   have:=limbs_lt X
   have:=Int.ediv_le_self (a:=(X:Int)) (Y:Int) (by omega)
   omega)
  have ct:=trim_a (digs (limbs X).length ((X:Int) / (Y:Int)))
  rw [trim_val (V:=X / Y) (digs_ok _ _) (by rw [hv]; rfl)] at ct
  have hm:(X:Int) % (Y:Int)<4294967296:=by
   have:=Int.emod_lt_of_pos (X:Int) (b:=(Y:Int)) (by omega)
   have:=oy.2
   omega
  refine acalls_of code_nat_DivMod (by simp [fn_nat_DivMod]) fun C hC => ?_
  refine wk5 ?_
  refine r_callN [] cn ?_
  refine rrun5 ?_
  refine rg_nil ⟨rfl,?_⟩
  refine wk5 ?_
  refine r_callM [(0,0)] cs ?_
  refine rrun5 ?_
  refine rg_nil ⟨rfl,?_⟩
  have cr:=norm_a [(X:Int) % (Y:Int)] (by show 1≤1000000000; omega)
  rw [trim_val (V:=X % Y) (fun z hz=>by simp only [List.mem_cons,List.not_mem_nil,or_false] at hz; subst hz; omega) (by simp only [vI]; omega)] at cr
  refine wk5 ?_
  exact fin
 ·have cl:=long_a X Y n (limbs X).length hn rfl (by omega) (by rw [← hn]; exact limbs_le_of (by omega)) (by omega)
  refine acalls_of code_nat_DivMod (by simp [fn_nat_DivMod]) fun C hC => ?_
  refine wk5 ?_
  exact fin
theorem ngcd_a (xs ys:List Int) (hx:limOK xs) (hy:limOK ys) (lx:xs.length≤90000) (ly:ys.length≤90000) :
 ACalls Tryz.prog 240 [.sl 1 (intsA .u32 xs),.sl 1 (intsA .u32 ys)] (.sl 1 (intsA .u32 (limbs (Nat.gcd (valL xs) (valL ys))))):=by
 have c1:=trim_of hx
 have c2:=trim_of hy
 have lt:=trimI_len xs
 rw [trimI_limbs hx] at lt
 have lt2:=trimI_len ys
 rw [trimI_limbs hy] at lt2
 generalize valL xs=X0 at *
 generalize valL ys=Y0 at *
 refine acalls_of code_nat_Gcd (by simp [fn_nat_Gcd]) fun C hC => ?_
 refine wk5 ?_
 refine aw_loopB [4] [] (fun x:Nat × Nat=>[(0,.sl 1 (intsA .u32 (limbs x.1))),(1,.sl 1 (intsA .u32 (limbs x.2)))]) (fun _=>[]) 0 (fun x=>(limbs x.1).length≤90000∧(limbs x.2).length≤90000∧Nat.gcd x.1 x.2=Nat.gcd X0 Y0) (fun x=>x.2) (X0,Y0) ⟨Nat.le_trans lt lx,Nat.le_trans lt2 ly,rfl⟩ ?_
 rintro ⟨X,Y⟩ ⟨bx,bY,hg⟩
 dsimp only [List.cons_append,List.nil_append] at bx bY hg ⊢
 rw [← hg]
 have lX:=intsA_len .u32 (limbs X)
 have lY:=intsA_len .u32 (limbs Y)
 by_cases h:Y=0
 ·subst h
  rw [limbs_zero] at lY ⊢
  rw [Nat.gcd_zero_right]
  have c4:=norm_of (limbs_ok X) (show (limbs X).length≤1000000000 by omega)
  rw [valL_limbs] at c4
  have lY0:((intsA .u32 []).length:Int)=0:=rfl
  refine wk5 ?_
  exact fin
 ·have hpos:0<(limbs Y).length:=Nat.pos_of_ne_zero fun hc=>h (limbs_nil.1 (List.eq_nil_of_length_eq_zero hc))
  have hgt:decide (((limbs Y).length:Int) > 0)=true:=decide_eq_true (by omega)
  have hm:=Nat.mod_lt X (Nat.pos_of_ne_zero h)
  by_cases h2:(limbs X).length≤2∧(limbs Y).length≤2
  ·obtain ⟨h2,h3⟩:=h2
   have w1:=word_a X (limbs_word h2)
   have w2:=word_a Y (limbs_word h3)
   have sm:=small_w X Y (limbs_word h2) (limbs_word h3)
   refine wk5 ?_
   exact fin
  ·have cd:=ndiv_a (limbs X) (limbs Y) (limbs_ok X) (limbs_ok Y) bx (by rw [valL_limbs]; exact h)
   rw [valL_limbs,valL_limbs] at cd
   have next:∀ C':Prop,((limbs (Y,X % Y).1).length≤90000∧(limbs (Y,X % Y).2).length≤90000∧Nat.gcd (Y,X % Y).1 (Y,X % Y).2=Nat.gcd X Y→C')→C':=fun _ f=>f ⟨bY,Nat.le_trans (limbs_len_mono (Nat.le_of_lt hm)) bY,by dsimp only; exact (Nat.gcd_comm _ _).trans ((Nat.gcd_rec Y X).symm.trans (Nat.gcd_comm _ _))⟩
   by_cases h3:(limbs X).length≤2
   ·have h4:¬ (limbs Y).length≤2:=fun hc=>h2 ⟨h3,hc⟩
    refine wk5 ?_
    exact ⟨(Y,X % Y),by dsimp only; exact hm,next _ fun h=>h,wkR hC.m []⟩
   ·refine wk5 ?_
    exact ⟨(Y,X % Y),by dsimp only; exact hm,next _ fun h=>h,wkR hC.m []⟩
end Go.Proofs.YtnnipocjapblkaaGreat
