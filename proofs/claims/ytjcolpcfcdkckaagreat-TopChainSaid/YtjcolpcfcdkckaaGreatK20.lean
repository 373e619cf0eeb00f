/- Natural numbers of the program: so many times a divisor off, and back. -/
import Derived.Test.YtjcolpcfcdkckaaGreatK17
import Derived.Test.YtjcolpcfcdkckaaGreatK18
set_option maxRecDepth 10000
set_option maxHeartbeats 4000000
namespace Go.Proofs.YtjcolpcfcdkckaaGreat
set_option linter.unusedVariables false
open Go.RowKit
def Nb (ys:List Int) (off n:Nat):List Int:=(ys.drop off).take n
theorem Y9 {ys:List Int} {off n:Nat} (h:off+n≤ys.length):(Nb ys off n).length=n:=by simp [Nb]; omega
theorem Aih {ys:List Int} {off n i:Nat} (h:i<n):(Nb ys off n)[i]? = ys[off+i]? := by
 rw [Nb,List.getElem?_take,if_pos h,List.getElem?_drop]
theorem Zb {ys:List Int} (h:AD ys) (off n:Nat):AD (Nb ys off n):=(h.drop off).take n
def DF (ys:List Int) (off n:Nat) (r:List Int):List Int:=ys.take off++r++ys.drop (off+n)
theorem AfZ {g x c:Int} (g0:0≤g) (g1:g≤4294967296) (hx:GP x) (hc:GP c):0≤g * x∧g * x≤18446744069414584320:=by
 obtain ⟨x0,x1⟩:=hx;have h1:=Int.mul_nonneg g0 x0;have h2:=Int.mul_le_mul g1 (show x≤4294967295 by omega) x0 (by omega);omega
theorem Af0 (ys ds:List Int) (off n:Nat) (g:Int) (hy:AD ys) (hd:AD ds) (ld:ds.length=n) (hn:n≤100000) (ly:off+n+1≤ys.length) (g0:0≤g) (g1:g≤4294967296) :
 Dn Tryz.prog 254 [.osl 0 off (n+1),.sl 1 (Ab .u32 ds),Gp g] [(0,some (DE ys))] 1 (.lit (.bool (decide (vI (Nb ys off (n+1))<g * vI ds))))
  [(0,some (DE (DF ys off (n+1) (DA (n+1) ((vI (Nb ys off (n+1)) - g * vI ds) % BB (n+1))))))] 1:=by
 have lD:=Ac .u32 ds;rw [ld] at lD;have hwl:=Y9 (ys:=ys) (off:=off) (n:=n+1) (by omega);have hwo:=Zb hy off (n+1);have hwi:∀ i,i<n+1→(Nb ys off (n+1))[i]? = ys[off+i]? := fun i h=>Aih h;generalize hw:Nb ys off (n+1)=w at *;refine BK Q0 fun C hC => ?_;refine Aj ?_;refine F8 0 (Ab .u32 ((ys.take off++[])++ys.drop (off+0))) rfl (by dsimp only; rw [List.append_nil,Nat.add_zero,List.take_append_drop]) ?_
 refine Ai [0,1,2,6,13,14] [] (fun x:Nat × Int × Int × List Int=>[(7,Gp x.2.1),(8,B0 x.2.2.1),(15,nA x.1)]) (fun x=>[(0,some (DE ((ys.take off++x.2.2.2)++ys.drop (off+x.1))))]) 1
  (fun x=>x.1≤n∧x.2.2.2.length=x.1∧AD x.2.2.2∧GP x.2.1∧(0≤x.2.2.1∧x.2.2.1≤1)∧vI (w.take x.1) - g * vI (ds.take x.1)=vI x.2.2.2 - BB x.1 * (x.2.1+x.2.2.1)) (fun x=>n - x.1) (0,0,0,[]) ⟨Nat.zero_le _,rfl,AD.nil,⟨by simp,by simp⟩,⟨by simp,by simp⟩,by simp [vI]⟩ ?_
 rintro ⟨i,c,b,r⟩ ⟨hi,hr,or,lc,⟨b0,b1⟩,hE⟩;dsimp only [List.cons_append,List.nil_append] at hi hr or lc b0 b1 hE ⊢;have hrr:(ys.take off++r).length=off+i:=by simp [hr]; omega
 have hml:=LX (xs:=ys) hrr (by omega);have lM:=Ac .u32 ((ys.take off++r)++ys.drop (off+i));obtain ⟨a,ha⟩:∃ a,ys[off+i]? = some a:=⟨_,List.getElem?_eq_getElem (by omega)⟩;have hak:(Ab .u32 ((ys.take off++r)++ys.drop (off+i)))[off+i]? = some [B0 a]:=Az ((N6 hrr).trans ha);have la:=Cf hy ha;have sX:=A7 ((hwi i (by omega)).trans ha);have hset:=fun v=>JO (xs:=ys) hrr (by omega) v;obtain ⟨c0,c1⟩:=lc;by_cases hlt:i<n
 ·obtain ⟨x,hx⟩:∃ x,ds[i]? = some x:=⟨_,List.getElem?_eq_getElem (by omega)⟩
  have hxk:(Ab .u32 ds)[i]? = some [B0 x]:=Az hx;have lx:=Cf hd hx;have sD:=A7 hx;obtain ⟨m0,m1⟩:=AfZ g0 g1 lx ⟨c0,c1⟩;have hcv:IntKind.u32.wrap (g * x+c)=(g * x+c) % 4294967296:=rfl;obtain ⟨e1,e2,e3⟩:=Te la (show GP ((g * x+c) % 4294967296) from ⟨by omega,by omega⟩) b0 b1;have ca:=Tc a ((g * x+c) % 4294967296) b la ⟨by omega,by omega⟩ b0 b1
  have hms:Ab .u32 ((ys.take off++(r++[(a - (g * x+c) % 4294967296 - b) % 4294967296]))++ys.drop (off+(i+1)))=(Ab .u32 ((ys.take off++r)++ys.drop (off+i))).set (off+i) [B0 ((a - (g * x+c) % 4294967296 - b) % 4294967296)]:=by
   rw [Bu,hset,← List.append_assoc]; rfl
  obtain ⟨x0,x1⟩:=lx;refine Aj ?_;refine ⟨(i+1,(g * x+c) / 4294967296,N0 a ((g * x+c) % 4294967296) b,r++[(a - (g * x+c) % 4294967296 - b) % 4294967296]),by dsimp only; omega,⟨by dsimp only; omega,by simp [hr],or.snoc (by omega) (by omega),⟨by dsimp only; omega,by dsimp only; omega⟩,⟨e2,e3⟩,?_⟩,BI hC.m [] (by dsimp only [DE]; rw [hms]; rfl)⟩;dsimp only;rw [sX,sD,DR,hr,BX]
  have:=Int.emod_add_mul_ediv (g * x+c) 4294967296
  clear hms hset hml hwi hak ca lM hrr
  grind
 ·obtain rfl:i=n:=by omega
  have hcv:IntKind.u32.wrap c=c:=Lb _ c0 (by omega);obtain ⟨e1,e2,e3⟩:=Te la (show GP c from ⟨c0,c1⟩) b0 b1;have ca:=Tc a c b la ⟨c0,c1⟩ b0 b1;rw [List.take_of_length_le (show w.length≤i+1 by omega)] at sX;rw [List.take_of_length_le (show ds.length≤i by omega)] at hE
  have hms:Ab .u32 ((ys.take off++(r++[(a - c - b) % 4294967296]))++ys.drop (off+(i+1)))=(Ab .u32 ((ys.take off++r)++ys.drop (off+i))).set (off+i) [B0 ((a - c - b) % 4294967296)]:=by
   rw [Bu,hset,← List.append_assoc]; rfl
  have orr:AD (r++[(a - c - b) % 4294967296]):=or.snoc (by omega) (by omega);have hlr:(r++[(a - c - b) % 4294967296]).length=i+1:=by simp [hr]
  have hv:vI w - g * vI ds=vI (r++[(a - c - b) % 4294967296]) - BB (i+1) * N0 a c b:=by
   rw [sX,DR,hr,BX];clear hms hset hml hwi hak ca lM hrr
   grind
  have n0:=BM orr;have n1:=Hr orr;rw [hlr] at n1
  have hmod:(vI w - g * vI ds) % BB (i+1)=vI (r++[(a - c - b) % 4294967296]):=by
   rw [hv,Int.sub_mul_emod_self_left];exact Int.emod_eq_of_lt n0 n1
  have hdg:=Tf orr hlr rfl
  have hbool:(decide (vI w<g * vI ds))=(N0 a c b != 0):=by
   have:vI w<g * vI ds↔N0 a c b≠0:=by
    constructor
    ·intro h he
     rw [he,Int.mul_zero] at hv;omega
    ·intro h
     have:N0 a c b=1:=by omega
     rw [this,Int.mul_one] at hv;omega
   rw [Bool.eq_iff_iff,decide_eq_true_iff,bne_iff_ne]; exact this
  rw [hmod,← hdg,hbool,DF];refine Aj ?_;exact BZ [] (hh:=by dsimp only [DE]; rw [hms]; rfl)
theorem Af1 (ys ds:List Int) (off n:Nat) (hy:AD ys) (hd:AD ds) (ld:ds.length=n) (hn:n≤100000) (ly:off+n+1≤ys.length) :
 Dn Tryz.prog 255 [.osl 0 off (n+1),.sl 1 (Ab .u32 ds)] [(0,some (DE ys))] 1 (.tup [])
  [(0,some (DE (DF ys off (n+1) (DA (n+1) ((vI (Nb ys off (n+1))+vI ds) % BB (n+1))))))] 1:=by
 have lD:=Ac .u32 ds;rw [ld] at lD;have hwl:=Y9 (ys:=ys) (off:=off) (n:=n+1) (by omega);have hwo:=Zb hy off (n+1);have hwi:∀ i,i<n+1→(Nb ys off (n+1))[i]? = ys[off+i]? := fun i h=>Aih h;generalize hw:Nb ys off (n+1)=w at *;refine BK Q1 fun C hC => ?_;refine Aj ?_;refine F8 0 (Ab .u32 ((ys.take off++[])++ys.drop (off+0))) rfl (by dsimp only; rw [List.append_nil,Nat.add_zero,List.take_append_drop]) ?_
 refine Ai [0,1,7,8] [] (fun x:Nat × Int × List Int=>[(4,B0 x.2.1),(9,nA x.1)]) (fun x=>[(0,some (DE ((ys.take off++x.2.2)++ys.drop (off+x.1))))]) 1
  (fun x=>x.1≤n∧x.2.2.length=x.1∧AD x.2.2∧(0≤x.2.1∧x.2.1≤1)∧vI (w.take x.1)+vI (ds.take x.1)=vI x.2.2+BB x.1 * x.2.1) (fun x=>n - x.1) (0,0,[]) ⟨Nat.zero_le _,rfl,AD.nil,⟨by simp,by simp⟩,by simp [vI]⟩ ?_
 rintro ⟨i,b,r⟩ ⟨hi,hr,or,⟨b0,b1⟩,hE⟩;dsimp only [List.cons_append,List.nil_append] at hi hr or b0 b1 hE ⊢;have hrr:(ys.take off++r).length=off+i:=by simp [hr]; omega
 have hml:=LX (xs:=ys) hrr (by omega);have lM:=Ac .u32 ((ys.take off++r)++ys.drop (off+i));obtain ⟨a,ha⟩:∃ a,ys[off+i]? = some a:=⟨_,List.getElem?_eq_getElem (by omega)⟩;have hak:(Ab .u32 ((ys.take off++r)++ys.drop (off+i)))[off+i]? = some [B0 a]:=Az ((N6 hrr).trans ha);have la:=Cf hy ha;have sX:=A7 ((hwi i (by omega)).trans ha);have hset:=fun v=>JO (xs:=ys) hrr (by omega) v;by_cases hlt:i<n
 ·obtain ⟨x,hx⟩:∃ x,ds[i]? = some x:=⟨_,List.getElem?_eq_getElem (by omega)⟩
  have hxk:(Ab .u32 ds)[i]? = some [B0 x]:=Az hx;have lx:=Cf hd hx;have sD:=A7 hx;have ca:=YV a x b la lx ⟨b0,by omega⟩
  have hms:Ab .u32 ((ys.take off++(r++[(a+x+b) % 4294967296]))++ys.drop (off+(i+1)))=(Ab .u32 ((ys.take off++r)++ys.drop (off+i))).set (off+i) [B0 ((a+x+b) % 4294967296)]:=by
   rw [Bu,hset,← List.append_assoc]; rfl
  obtain ⟨x0,x1⟩:=lx;obtain ⟨a0,a1⟩:=la;refine Aj ?_;refine ⟨(i+1,(a+x+b) / 4294967296,r++[(a+x+b) % 4294967296]),by dsimp only; omega,⟨by dsimp only; omega,by simp [hr],or.snoc (by omega) (by omega),⟨by dsimp only; omega,by dsimp only; omega⟩,?_⟩,BI hC.m [] (by dsimp only [DE]; rw [hms]; rfl)⟩;dsimp only;rw [sX,sD,DR,hr,BX]
  have:=Int.emod_add_mul_ediv (a+x+b) 4294967296
  clear hms hset hml hwi hak ca lM hrr
  grind
 ·obtain rfl:i=n:=by omega
  rw [List.take_of_length_le (show w.length≤i+1 by omega)] at sX;rw [List.take_of_length_le (show ds.length≤i by omega)] at hE;have hadd:BQ .add .u32 a b=some (.int .u32 ((a+b) % 4294967296)):=rfl
  have hms:Ab .u32 ((ys.take off++(r++[(a+b) % 4294967296]))++ys.drop (off+(i+1)))=(Ab .u32 ((ys.take off++r)++ys.drop (off+i))).set (off+i) [B0 ((a+b) % 4294967296)]:=by
   rw [Bu,hset,← List.append_assoc]; rfl
  obtain ⟨a0,a1⟩:=la;have orr:AD (r++[(a+b) % 4294967296]):=or.snoc (by omega) (by omega);have hlr:(r++[(a+b) % 4294967296]).length=i+1:=by simp [hr]
  have n0:=BM orr;have n1:=Hr orr;rw [hlr] at n1
  have hmod:(vI w+vI ds) % BB (i+1)=vI (r++[(a+b) % 4294967296]):=by
   have hv:vI w+vI ds=vI (r++[(a+b) % 4294967296])+BB (i+1) * ((a+b) / 4294967296):=by
    rw [sX,DR,hr,BX]
    have:=Int.emod_add_mul_ediv (a+b) 4294967296
    clear hms hset hml hwi hak lM hrr
    grind
   rw [hv,Int.add_mul_emod_self_left];exact Int.emod_eq_of_lt n0 n1
  have hdg:=Tf orr hlr rfl;rw [hmod,← hdg,DF];refine Aj ?_;exact BZ [] (hh:=by dsimp only [DE]; rw [hms]; rfl)
theorem AeD {n:Int} (h0:0≤n) (h1:n<4294967296):BQ .and .u64 n 4294967295=some (.int .u64 n):=by
 obtain ⟨m,rfl⟩:=Int.eq_ofNat_of_zero_le h0;show some (Value.int .u64 (IntKind.u64.wrap (BitVec.ofInt 64 (m:Int) &&& BitVec.ofInt 64 (4294967295:Int)).toNat))=_
 have e:(BitVec.ofInt 64 (m:Int) &&& BitVec.ofInt 64 (4294967295:Int)).toNat=m:=by
  rw [BitVec.toNat_and,show (BitVec.ofInt 64 (m:Int)).toNat=m from by simp; omega,show (BitVec.ofInt 64 (4294967295:Int)).toNat=2 ^ 32 - 1 from rfl,Nat.and_two_pow_sub_one_eq_mod];exact Nat.mod_eq_of_lt (by omega)
 rw [e,IntWalk.u64_in _ ⟨by omega,by omega⟩]
theorem Af2 {n:Int} (h0:0≤n) (h1:n<4294967296):Ae Tryz.prog 201 [.lit (.int .u64 1),.lit (.int .u64 n)] (.tup [.lit (.int .u64 0),.lit (.int .u64 n)]):=by
 have e1:BQ .and .u64 1 4294967295=some (.int .u64 1):=AeD (by omega) (by omega);have e2:=AeD h0 h1;have hp:(2:Int) ^ (min (32:Int).toNat IntKind.u64.bits)=4294967296:=rfl;have q0:n / 4294967296=0:=by omega
 have wn:IntKind.u64.wrap (1 * n)=n:=by rw [Int.one_mul]; exact IntWalk.u64_in _ ⟨by omega,by omega⟩
 have m1:BQ .mul .u64 1 n=some (.int .u64 n):=by show some (Value.int .u64 (IntKind.u64.wrap (1 * n)))=_; rw [wn]
 have m2:BQ .mul .u64 (1 / 4294967296) n=some (.int .u64 0):=by show some (Value.int .u64 (IntKind.u64.wrap (0 * n)))=_; rw [Int.zero_mul]; rfl
 have a1:BQ .add .u64 0 (n / 4294967296)=some (.int .u64 0):=by rw [q0]; rfl
 have e3:BQ .and .u64 0 4294967295=some (.int .u64 0):=rfl;have m3:BQ .mul .u64 1 (n / 4294967296)=some (.int .u64 0):=by rw [q0]; rfl
 have a2:BQ .add .u64 0 0=some (.int .u64 0):=rfl;have m4:BQ .mul .u64 (1 / 4294967296) (n / 4294967296)=some (.int .u64 0):=by rw [q0]; rfl
 have a3:BQ .add .u64 0 (0 / 4294967296)=some (.int .u64 0):=rfl;refine Aa Lp fun C hC => ?_;refine Aj ?_;exact Am
theorem AbB {n:Int} (h0:0≤n) (h1:n<4294967296):Ae Tryz.prog 166 [.lit (.int .u64 1),.lit (.int .u64 n)] (.tup [.lit (.int .u64 0),.lit (.int .u64 n)]):=by
 have c1:=Af2 h0 h1;refine Aa NY fun C hC => ?_;refine Aj ?_;exact Am
def Fh (v z:List AV) (n j:Nat):List (List AV):=List.replicate j v++List.replicate (n - j) z
theorem AbC (v z:List AV) {n j:Nat} (h:j≤n):(Fh v z n j).length=n:=by simp [Fh]; omega
theorem AbD (v z:List AV) (n:Nat):Fh v z n n=List.replicate n v:=by simp [Fh]
theorem AbE (v z:List AV) {n:Nat} (h:1≤n):[v]++(List.replicate n z).drop [v].length=Fh v z n 1:=by
 simp [Fh]
theorem Xu (v z:List AV) {n j c:Nat} (hj:j≤n) (hc:c=min (n - j) j):(Fh v z n j).take j++(((Fh v z n j).drop 0).take c++(Fh v z n j).drop (j+c))=Fh v z n (j+c):=by
 have h1:c≤j:=by omega
 have h2:j+c≤n:=by omega
 have e1:(Fh v z n j).take j=List.replicate j v:=by
  unfold Fh; rw [List.take_append_of_le_length (by simp),List.take_of_length_le (by simp)]
 have e2:((Fh v z n j).drop 0).take c=List.replicate c v:=by
  unfold Fh; rw [List.drop_zero,List.take_append_of_le_length (by simp; omega),List.take_replicate,Nat.min_eq_left h1]
 have e3:(Fh v z n j).drop (j+c)=List.replicate (n - (j+c)) z:=by
  unfold Fh; rw [List.drop_append,List.drop_of_length_le (by simp),List.nil_append,List.drop_replicate,List.length_replicate];congr 1; omega
 rw [e1,e2,e3,← List.append_assoc];unfold Fh;rw [List.replicate_append_replicate]
theorem AbF (z:Int) (n:Nat) (hn:n≤100000):Ae Tryz.prog 123 [.sl 1 [[AV.lit (.int .i64 z)]],.lit (.int .i64 n)] (.sl 1 (List.replicate n ([AV.lit (.int .i64 z)]))):=by
 have w1:IntKind.u64.wrap 1=1:=rfl;have w2:IntKind.u64.wrap (n:Int)=n:=IntWalk.u64_in _ ⟨by omega,by omega⟩;have w3:IntKind.i64.wrap (n:Int)=n:=IntWalk.i64_in _ ⟨by omega,by omega⟩;have c1:=AbB (n:=(n:Int)) (by omega) (by omega);obtain ⟨v,hv⟩:∃ v,v=[AV.lit (.int .i64 z)]:=⟨_,rfl⟩;obtain ⟨zz,hzz⟩:∃ zz:List AV,zz=[AV.lit (.int .i64 0)]:=⟨_,rfl⟩;rw [← hv];refine Aa JL fun C hC => ?_;have loop:∀ (j0:Nat),j0≤n→(n=0∨1≤j0)→True:=fun _ _ _=>trivial;by_cases h0:n=0
 ·subst h0
  refine Aj ?_;refine Aei (id:=0) [0] (List.mem_singleton.2 rfl) rfl ?_;refine A5 ?_;refine Ak ⟨rfl,?_⟩;refine Aj ?_;refine Ai [7] [0] (fun j:Nat=>[(8,.lit (.int .i64 0))]) (fun j=>[]) 1 (fun j=>True) (fun j=>j) 0 trivial ?_;rintro j -;dsimp only [List.cons_append,List.nil_append];refine Aj ?_;exact Am
 have g1:1≤n:=by omega
 have hone:=AbE v zz g1;rw [hzz] at hone;have hl0:(List.replicate n ([AV.lit (.int .i64 0)])).length=n:=List.length_replicate;refine Aj ?_;refine TR ?_ ?_
 ·dsimp only; rw [List.length_replicate]; simp; omega
 refine A5 ?_;refine Ak ⟨rfl,?_⟩;refine F8 0 (Fh v ([AV.lit (.int .i64 0)]) n 1) rfl (by dsimp only; rw [Int.toNat_natCast]; exact hone) ?_;refine Aj ?_;refine Ai [7] [] (fun j:Nat=>[(8,.lit (.int .i64 j))]) (fun j=>[(0,some ⟨true,false,3,1,Fh v ([AV.lit (.int .i64 0)]) n j⟩)]) 1 (fun j=>1≤j∧j≤n) (fun j=>n - j) 1 ⟨Nat.le_refl _,g1⟩ ?_;rintro j ⟨j1,j2⟩;dsimp only [List.cons_append,List.nil_append];have hlen:=AbC v ([AV.lit (.int .i64 0)]) j2;have hlenI:((Fh v ([AV.lit (.int .i64 0)]) n j).length:Int)=n:=by rw [hlen]
 by_cases hlt:j<n
 ·have hst:=Xu v ([AV.lit (.int .i64 0)]) j2 (c:=min (n - j) j) rfl
  obtain ⟨c,hc⟩:∃ c,c=min (n - j) j:=⟨_,rfl⟩;rw [← hc] at hst;refine Aj ?_;refine Pq (ob:=⟨true,false,3,1,Fh v ([AV.lit (.int .i64 0)]) n j⟩) j n ?_ (hhi:=hlenI.symm);refine A5 ?_;refine Pq (ob:=⟨true,false,3,1,Fh v ([AV.lit (.int .i64 0)]) n j⟩) 0 j ?_;refine A5 ?_;refine Aeh c (Fh v ([AV.lit (.int .i64 0)]) n (j+c)) ?_ ?_ ?_ hst ?_
  ·omega
  ·dsimp only; omega
  ·dsimp only; omega
  refine A5 ?_;refine Ak ⟨rfl,?_⟩;refine Aj ?_;exact ⟨j+c,by omega,by omega,BI hC.m []⟩
 ·obtain rfl:j=n:=by omega
  rw [AbD];have hr:((List.replicate j v).length:Int)=j:=by simp
  refine Aj ?_;exact Am
theorem Af3 (z:Ah) (n:Nat) (hn:n≤100000):Ae Tryz.prog 168 [.sl 7 [Au z],.lit (.int .i64 n)] (.sl 7 (List.replicate n (Au z))):=by
 have w1:IntKind.u64.wrap 1=1:=rfl;have w2:IntKind.u64.wrap (n:Int)=n:=IntWalk.u64_in _ ⟨by omega,by omega⟩;have w3:IntKind.i64.wrap (n:Int)=n:=IntWalk.i64_in _ ⟨by omega,by omega⟩;have c1:=AbB (n:=(n:Int)) (by omega) (by omega);obtain ⟨v,hv⟩:∃ v,v=Au z:=⟨_,rfl⟩;obtain ⟨zz,hzz⟩:∃ zz:List AV,zz=Bd:=⟨_,rfl⟩;rw [← hv];refine Aa GM fun C hC => ?_;have loop:∀ (j0:Nat),j0≤n→(n=0∨1≤j0)→True:=fun _ _ _=>trivial;by_cases h0:n=0
 ·subst h0
  refine Aj ?_;refine Aei (id:=0) [0] (List.mem_singleton.2 rfl) rfl ?_;refine A5 ?_;refine Ak ⟨rfl,?_⟩;refine Aj ?_;refine Ai [7] [0] (fun j:Nat=>[(8,.lit (.int .i64 0))]) (fun j=>[]) 1 (fun j=>True) (fun j=>j) 0 trivial ?_;rintro j -;dsimp only [List.cons_append,List.nil_append];refine Aj ?_;exact Am
 have g1:1≤n:=by omega
 have hone:=AbE v zz g1;rw [hzz] at hone;have hl0:(List.replicate n (Bd)).length=n:=List.length_replicate;refine Aj ?_;refine TR ?_ ?_
 ·dsimp only; rw [List.length_replicate]; simp; omega
 refine A5 ?_;refine Ak ⟨rfl,?_⟩;refine F8 0 (Fh v (Bd) n 1) rfl (by dsimp only; rw [Int.toNat_natCast]; exact hone) ?_;refine Aj ?_;refine Ai [7] [] (fun j:Nat=>[(8,.lit (.int .i64 j))]) (fun j=>[(0,some ⟨true,false,43,7,Fh v (Bd) n j⟩)]) 1 (fun j=>1≤j∧j≤n) (fun j=>n - j) 1 ⟨Nat.le_refl _,g1⟩ ?_;rintro j ⟨j1,j2⟩;dsimp only [List.cons_append,List.nil_append];have hlen:=AbC v (Bd) j2;have hlenI:((Fh v (Bd) n j).length:Int)=n:=by rw [hlen]
 by_cases hlt:j<n
 ·have hst:=Xu v (Bd) j2 (c:=min (n - j) j) rfl
  obtain ⟨c,hc⟩:∃ c,c=min (n - j) j:=⟨_,rfl⟩;rw [← hc] at hst;refine Aj ?_;refine Pq (ob:=⟨true,false,43,7,Fh v (Bd) n j⟩) j n ?_ (hhi:=hlenI.symm);refine A5 ?_;refine Pq (ob:=⟨true,false,43,7,Fh v (Bd) n j⟩) 0 j ?_;refine A5 ?_;refine Aeh c (Fh v (Bd) n (j+c)) ?_ ?_ ?_ hst ?_
  ·omega
  ·dsimp only; omega
  ·dsimp only; omega
  refine A5 ?_;refine Ak ⟨rfl,?_⟩;refine Aj ?_;exact ⟨j+c,by omega,by omega,BI hC.m []⟩
 ·obtain rfl:j=n:=by omega
  rw [AbD];have hr:((List.replicate j v).length:Int)=j:=by simp
  refine Aj ?_;exact Am
end Go.Proofs.YtjcolpcfcdkckaaGreat
