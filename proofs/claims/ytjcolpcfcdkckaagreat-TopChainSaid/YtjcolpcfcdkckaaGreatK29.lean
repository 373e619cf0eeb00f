/- Rows, and arrays as cells. -/
import Derived.Test.YtjcolpcfcdkckaaGreatK13
import Derived.Test.YtjcolpcfcdkckaaGreatK27
import Derived.Test.YtjcolpcfcdkckaaGreatK28
set_option maxRecDepth 10000
set_option maxHeartbeats 16000000
namespace Go.Proofs.YtjcolpcfcdkckaaGreat
set_option linter.unusedVariables false
open Go.RowKit
def ZF (A:Al):Al:=.mk A.s (match A.shape with|[]=>[1,1]|n::t=>[n,Bm t 1]) A.cells
theorem AkM (A:Al) (hA:CI A):Ae Tryz.prog 27 [.agg (Ao A)] (.agg (Ao (ZF A))):=by
 have hB:A2=1000000000:=rfl;obtain ⟨a1,a2,a3,a4⟩:=hA.ok.parts;have hcl:=hA.cells;have hb:(A.cells.map Av).length * 104≤140737488355328:=by simp; omega
 have ls:=Ac .i64 A.shape;unfold ZF;cases e:A.shape with
 | nil =>
   rw [e] at ls;have ls:(((Ab .i64 []).length:Nat):Int)=0:=rfl;refine Aa Ke fun C hC => ?_;unfold Ao;rw [e];refine Af ?_;exact Am
 | cons n t =>
   have c1:=N9 A.shape 0 n hA.e (by rw [e]; rfl);rw [e] at c1 ls;simp only [List.take_zero,Nat.zero_add,List.drop_succ_cons,List.drop_zero,Int.natCast_zero] at c1;have ls2:0<((n::t).length:Int):=by simp
   refine Aa Ke fun C hC => ?_;unfold Ao;rw [e];refine Af ?_;exact Am
theorem AO (a b o:Nat):Aw (a ||| b) o=(Aw a o && Aw b o):=by
 unfold Aw;rw [Bool.eq_iff_iff];simp only [beq_iff_eq,Bool.and_eq_true];constructor
 ·intro h
  constructor
  ·conv=>lhs; rw [← h]
   rw [← Nat.or_assoc,← Nat.or_assoc,Nat.or_self]; exact h
  ·conv=>lhs; rw [← h]
   rw [Nat.or_comm a b,Nat.or_assoc b a o,← Nat.or_assoc b b,Nat.or_self,← Nat.or_assoc,Nat.or_comm b a]; exact h
 ·rintro ⟨h1,h2⟩
  rw [Nat.or_assoc,h2,h1]
theorem Vx (o:Nat):BN o AS AS=true:=by
 simp [AS,BN,Ix,B5,Bq]
theorem Dq (o:Nat):∀ {cs ds:List Ah},Ay o cs ds=true↔cs.length=ds.length∧∀ i,BN o (cs.getD i AS) (ds.getD i AS)=true
 | [],[]=>⟨fun _=>⟨rfl,fun i=>by simpa using Vx o⟩,fun _=>by simp [Ay]⟩
 | [],d::ds=>by simp [Ay]
 | c::cs,[]=>by simp [Ay]
 | c::cs,d::ds=>by
   rw [Ay,Bool.and_eq_true,Dq o (cs:=cs) (ds:=ds)];constructor
   ·rintro ⟨h1,h2,h3⟩
    refine ⟨by simpa using h2,fun i => ?_⟩;cases i with
    | zero=>simpa using h1
    | succ i=>simpa using h3 i
   ·rintro ⟨h1,h2⟩
    refine ⟨by simpa using h2 0,by simpa using h1,fun i=>by simpa using h2 (i+1)⟩
theorem Ads (o:Nat) (n1 n2:Nat) (a1 a2:Bool) {c1 d1 c2 d2:List Ah} (h1:Ay o c1 d1=true) (h2:Ay o c2 d2=true) (m:Nat) :
 Ay o (IE n1 n2 a1 c1 a2 c2 m) (IE n1 n2 a1 d1 a2 d2 m)=true:=by
 refine (Dq o).2 ⟨by simp [IE],fun i => ?_⟩;by_cases hi:i<m
 ·have e:∀ (x y:List Ah),(IE n1 n2 a1 x a2 y m).getD i AS=AhK n1 n2 a1 x a2 y i:=fun x y=>by
   unfold IE;rw [List.getD_eq_getElem?_getD,List.getElem?_map,List.getElem?_range hi]; rfl
  rw [e,e];unfold AhK Abi;split
  ·exact ((Dq o).1 h1).2 _
  ·exact ((Dq o).1 h2).2 _
 ·have e:∀ (x y:List Ah),(IE n1 n2 a1 x a2 y m).getD i AS=AS:=fun x y=>by
   rw [List.getD_eq_getElem?_getD,List.getElem?_eq_none (by rw [PI]; omega)]; rfl
  rw [e,e];exact Vx o
theorem XD (sh1 sh2:List Int) (f:Bool):(∃ e:Int,e≠0∧∀ s1 cs1 s2 cs2,(Ey (.mk s1 sh1 cs1) (.mk s2 sh2 cs2) f).2=e) ∨
 (∃ u N1 N2 al bl m,∀ s1 cs1 s2 cs2,Ey (.mk s1 sh1 cs1) (.mk s2 sh2 cs2) f=(.mk (s1 ||| s2) u (IE N1 N2 al cs1 bl cs2 m),0)):=by
 have hn:∀ s1 cs1 s2 cs2,IM (.mk s1 sh1 cs1) (.mk s2 sh2 cs2)=IM (.mk 0 sh1 []) (.mk 0 sh2 []):=fun _ _ _ _=>rfl;have hx:∀ s1 cs1 s2 cs2,FU (.mk s1 sh1 cs1) (.mk s2 sh2 cs2) f=FU (.mk 0 sh1 []) (.mk 0 sh2 []) f:=fun _ _ _ _=>rfl;unfold Ey;simp only [hn,hx,Al.shape,Al.s,Al.cells];generalize IM (.mk 0 sh1 []) (.mk 0 sh2 [])=n;generalize FU (.mk 0 sh1 []) (.mk 0 sh2 []) f=x;cases JR sh1 sh2 n x with
 | none=>exact .inl ⟨5,by omega,fun _ _ _ _=>rfl⟩
 | some p =>
   obtain ⟨s,al⟩:=p;cases JR sh2 sh1 n x with
   | none=>exact .inl ⟨5,by omega,fun _ _ _ _=>rfl⟩
   | some q =>
     obtain ⟨t,bl⟩:=q;simp only;by_cases h:(Lz s t x (s.getD x 0+t.getD x 0)).2=0
     ·right
      exact ⟨_,_,_,_,_,_,fun s1 cs1 s2 cs2=>by rw [if_neg (by simpa using h)]⟩
     ·left
      exact ⟨_,h,fun s1 cs1 s2 cs2=>by rw [if_pos h]⟩
theorem Cm {o:Nat} {A B:Al} (h:AJ o A B=true):(Aw A.s o=false∧Aw B.s o=false)∨(Aw A.s o=true∧Aw B.s o=true∧A.s=B.s∧A.shape=B.shape∧Ay o A.cells B.cells=true):=by
 rw [LZ] at h;split at h
 ·rename_i hv
  simp only [Bool.and_eq_true,beq_iff_eq] at h
  have:=h.2.1
  unfold B5 at this;exact .inr ⟨hv.1,hv.2,h.1,by simpa using this,h.2.2⟩
 ·rename_i hv
  rw [beq_iff_eq] at h;left;cases h1:Aw A.s o<;>cases h2:Aw B.s o<;>simp_all
theorem Bs {o:Nat} {A B:Al} (h1:Aw A.s o=false) (h2:Aw B.s o=false):AJ o A B=true:=by
 rw [LZ,h1,h2]; simp
theorem BF {o:Nat} {A B:Al} (hs:A.s=B.s) (hsh:A.shape=B.shape) (hc:Ay o A.cells B.cells=true):AJ o A B=true:=by
 rw [LZ,hs,hsh,hc];split
 ·simp [B5]
 ·simp
theorem XE {o:Nat} {A B C D:Al} (first:Bool) (h1:AJ o A B=true) (h2:AJ o C D=true) (hs1:(Ey A C first).2=0) (hs2:(Ey B D first).2=0):AJ o (Ey A C first).1 (Ey B D first).1=true:=by
 have hform:∀ {X Y:Al},(Ey X Y first).2=0→(Ey X Y first).1.s=X.s ||| Y.s:=fun {X Y} h=>by
  obtain ⟨s1,sh1,cs1⟩:=X;obtain ⟨s2,sh2,cs2⟩:=Y;rcases XD sh1 sh2 first with ⟨e,he,hf⟩|⟨u,N1,N2,al,bl,m,hf⟩
  ·rw [hf] at h; exact absurd h he
  ·rw [hf]; rfl
 have f1:=hform hs1;have f2:=hform hs2;rcases Cm h1 with ⟨a1,a2⟩|⟨a1,a2,a3,a4,a5⟩
 ·exact Bs (by rw [f1,AO,a1]; rfl) (by rw [f2,AO,a2]; rfl)
 ·rcases Cm h2 with ⟨b1,b2⟩|⟨b1,b2,b3,b4,b5⟩
  ·exact Bs (by rw [f1,AO,b1,Bool.and_false]) (by rw [f2,AO,b2,Bool.and_false])
  ·obtain ⟨s1,sh1,cs1⟩:=A
   obtain ⟨s2,sh2,cs2⟩:=B;obtain ⟨s3,sh3,cs3⟩:=C;obtain ⟨s4,sh4,cs4⟩:=D;simp only [Al.s,Al.shape,Al.cells] at a3 a4 a5 b3 b4 b5;subst a3 a4 b3 b4;rcases XD sh1 sh3 first with ⟨e,he,hf⟩|⟨u,N1,N2,al,bl,m,hf⟩
   ·rw [hf] at hs1; exact absurd hs1 he
   ·rw [hf,hf]
    exact BF rfl rfl (Ads o N1 N2 al bl a5 b5 m)
theorem Agd {o:Nat} {A B:Al} (h:AJ o A B=true):AJ o (ZF A) (ZF B)=true:=by
 rcases Cm h with ⟨a1,a2⟩|⟨a1,a2,a3,a4,a5⟩
 ·exact Bs a1 a2
 ·exact BF a3 (by unfold ZF; rw [a4]; rfl) a5
theorem EN {o:Nat} {c d:Ah} (h1:Aw c.l o=false) (h2:Aw d.l o=false):BN o c d=true:=by
 rw [L0,h1,h2]; simp
theorem P5 {A:Al} (h:Ff A=true):∃ l k n c ins,A.cells=[.mk l k n c ins]:=by
 have h2:=(H6 h).2
 match hA:A.cells,h2 with
 | [.mk l k n c ins],_=>exact ⟨l,k,n,c,ins,rfl⟩
theorem Age {A:Al} (kA:CI A) (hA:arrOK A):arrOK (ZF A):=by
 obtain ⟨a1,a2,a3,a4⟩:=hA.parts;have hsm:=kA.small;unfold ZF;cases e:A.shape with
 | nil=>exact ⟨a1,fun z hz=>by simp at hz; subst hz; decide,by simp [reachBytes],a3,a4⟩
 | cons n t =>
   have h1:=hsm n (by rw [e]; simp);have h2:=D1 t 1 (by omega) (by omega) (hsm.mem fun z hz=>by rw [e]; simp [hz]);refine ⟨a1,fun z hz => ?_,by simp [reachBytes],a3,a4⟩;simp only [List.mem_cons,List.not_mem_nil,or_false] at hz;rcases hz with rfl|rfl
   ·exact Y6 (by omega) (by omega)
   ·exact Y6 (by omega) (by omega)
def MW (d:List Int) (i:Nat):List Int:=(List.range d.length).map fun m=>if m<i∨d.length - i≤m then d.getD (d.length - 1 - m) 0 else d.getD m 0
theorem HA (d:List Int) (i:Nat):(MW d i).length=d.length:=by simp [MW]
theorem Jh (d:List Int) (i:Nat) {m:Nat} (h:m<d.length):(MW d i)[m]? = some (if m<i∨d.length - i≤m then d.getD (d.length - 1 - m) 0 else d.getD m 0):=by
 unfold MW; rw [List.getElem?_map,List.getElem?_range h]; rfl
theorem Agf (d:List Int):MW d 0=d:=by
 apply List.ext_getElem?;intro m;by_cases h:m<d.length
 ·rw [Jh d 0 h,if_neg (by omega),List.getD_eq_getElem?_getD,List.getElem?_eq_getElem h]; rfl
 ·rw [List.getElem?_eq_none (by rw [HA]; omega),List.getElem?_eq_none (by omega)]
theorem Aiw (d:List Int) (i:Nat) (h:d.length≤2 * i+1):MW d i=d.reverse:=by
 apply List.ext_getElem?;intro m;by_cases hm:m<d.length
 ·rw [Jh d i hm,List.getElem?_reverse hm]
  split
  ·rw [List.getD_eq_getElem?_getD,List.getElem?_eq_getElem (by omega)]; rfl
  ·have:d.length - 1 - m=m:=by omega
   rw [this,List.getD_eq_getElem?_getD,List.getElem?_eq_getElem hm]; rfl
 ·rw [List.getElem?_eq_none (by rw [HA]; omega),List.getElem?_eq_none (by simp; omega)]
theorem Agg (d:List Int) (i:Nat) (h:2 * i+1<d.length):((MW d i).set i (d.getD (d.length - 1 - i) 0)).set (d.length - 1 - i) (d.getD i 0)=MW d (i+1):=by
 apply List.ext_getElem?;intro m;by_cases hm:m<d.length
 ·rw [Jh d (i+1) hm]
  by_cases e1:m=d.length - 1 - i
  ·subst e1
   rw [List.getElem?_set_self (by rw [List.length_set,HA]; omega),if_pos (by omega)];congr 2; omega
  ·rw [List.getElem?_set_ne (by omega)]
   by_cases e2:m=i
   ·subst e2
    rw [List.getElem?_set_self (by rw [HA]; omega),if_pos (by omega)]
   ·rw [List.getElem?_set_ne (by omega),Jh d i hm]
    by_cases h3:m<i∨d.length - i≤m
    ·rw [if_pos h3,if_pos (by omega)]
    ·rw [if_neg h3,if_neg (by omega)]
 ·rw [List.getElem?_eq_none (by rw [List.length_set,List.length_set,HA]; omega),List.getElem?_eq_none (by rw [HA]; omega)]
theorem Vy (d:List Int) (hl:d.length≤1000):Dn Tryz.prog 87 [.own 0] [(0,some ⟨true,false,3,1,Ab .i64 d⟩)] 1 (.tup []) [(0,some ⟨true,false,3,1,Ab .i64 d.reverse⟩)] 1:=by
 have ld:=Ac .i64 d;refine BK ET fun C hC => ?_;refine Af ?_
 refine Ai [0] [] (fun i:Nat=>[(2,.lit (.int .i64 i)),(3,.lit (.int .i64 ((d.length:Int) - 1 - i)))]) (fun i=>[(0,some ⟨true,false,3,1,Ab .i64 (MW d i)⟩)]) 1
  (fun i=>i≤d.length) (fun i=>d.length - i) 0 (Nat.zero_le _) ?_ (hh:=by rw [Agf]; rfl) (ht:=by simp only [Int.natCast_zero,Int.sub_zero]; rfl)
 rintro i hi;dsimp only [List.cons_append,List.nil_append];have hrl:=HA d i;have lr:=Ac .i64 (MW d i);by_cases h:2 * i+1<d.length
 ·have g1:=Jh d i (m:=i) (by omega)
  rw [if_neg (by omega)] at g1;have g2:=Jh d i (m:=d.length - 1 - i) (by omega);rw [if_neg (by omega)] at g2;have hst:=Agg d i h;have k1:(Ab .i64 (MW d i))[((i:Nat):Int).toNat]? = some [.lit (.int .i64 (d.getD i 0))]:=Az g1
  have k2:(Ab .i64 (MW d i))[((d.length:Int) - 1 - i).toNat]? = some [.lit (.int .i64 (d.getD (d.length - 1 - i) 0))]:=by
   rw [show ((d.length:Int) - 1 - i).toNat=d.length - 1 - i from by omega]; exact Az g2
  have k3:((Ab .i64 (MW d i)).set ((i:Nat):Int).toNat [.lit (.int .i64 (d.getD (d.length - 1 - i) 0))])[((d.length:Int) - 1 - i).toNat]? = some [.lit (.int .i64 (d.getD (d.length - 1 - i) 0))]:=by
   rw [List.getElem?_set_ne (by omega)]; exact k2
  have hs2:((Ab .i64 (MW d i)).set ((i:Nat):Int).toNat [.lit (.int .i64 (d.getD (d.length - 1 - i) 0))]).set ((d.length:Int) - 1 - i).toNat [.lit (.int .i64 (d.getD i 0))]=Ab .i64 (MW d (i+1)):=by
   rw [show ((d.length:Int) - 1 - i).toNat=d.length - 1 - i from by omega,Int.toNat_natCast,Bu,Bu,hst]
  generalize d.getD i 0=a at k1 hs2;generalize d.getD (d.length - 1 - i) 0=b at k2 k3 hs2;have lsx:((((Ab .i64 (MW d i)).set ((i:Nat):Int).toNat [.lit (.int .i64 b)]).length:Nat):Int)=d.length:=by rw [List.length_set,lr,hrl]
  clear g1 g2 hst;refine Af ?_;exact ⟨i+1,by omega,by omega,BI hC.m [] (by rw [← hs2,show (d.length:Int) - 1 - ((i+1:Nat):Int)=(d.length:Int) - 1 - i - 1 from by omega]; rfl)⟩
 ·rw [Aiw d i (by omega)]
  refine Af ?_;exact BZ []
theorem Amk (d:List Int) (hl:d.length≤1000):Dn Tryz.prog 88 [.own 0] [(0,some ⟨true,false,3,1,Ab .i64 d⟩)] 1 (.tup []) [(0,some ⟨true,false,3,1,Ab .i64 d.reverse⟩)] 1:=by
 have c1:=Vy d hl;refine BK KC fun C hC => ?_;refine Af ?_;refine AH (BP ?_);refine Bn [(0,0)] c1 ?_;refine BP ?_;refine Ak ⟨rfl,?_⟩;exact BZ []
def Ou (n:Nat):List Int:=(List.range n).map fun i:Nat=>((n - i:Nat):Int)
theorem LD (n:Nat):(Ou n).length=n:=by simp [Ou]
theorem P6 {n i:Nat} (h:i<n):(Ou n)[i]? = some ((n - i:Nat):Int):=by unfold Ou; rw [List.getElem?_map,List.getElem?_range h]; rfl
theorem AkN (n:Nat):okP (Ou n) n n:=fun m k hm hk=>by
 rw [P6 hm] at hk;simp only [Option.some.injEq] at hk;subst hk;refine ⟨by omega,by omega,?_⟩;have hle:=ZA (P6 hm);have hg:=PY (l:=Ou n) (a:=((n - m:Nat):Int)) (by rw [LD]; omega);rw [P6 (by omega)] at hg;simp only [Option.some.injEq] at hg;omega
theorem AbV (n:Nat):okP (Ou n) (Ou n).length (Ou n).length:=by rw [LD]; exact AkN n
theorem ZG {n:Nat} {d:List Int} (hd:d.length=n):R8 (Ou n) d=d.reverse:=by
 apply List.ext_getElem?;intro i;by_cases h:i<n
 ·rw [P0 (P6 h),List.getElem?_reverse (by omega),List.getD_eq_getElem?_getD,show (((n - i:Nat):Int) - 1).toNat=d.length - 1 - i from by omega,List.getElem?_eq_getElem (by omega)]
  rfl
 ·rw [List.getElem?_eq_none (by rw [L4,LD]; omega),List.getElem?_eq_none (by simp; omega)]
theorem AkO {n:Nat} {d:List Int} (hd:d.length=n):KG (Ou n) d=d.reverse:=by
 have:=ZB (l:=Ou n) (d:=d.reverse) (AbV n) (by simp [LD,hd])
 rw [ZG (by simp [hd]),List.reverse_reverse] at this;exact this
def trA (A:Al):Al:=.mk A.s A.shape.reverse (CX A.cells (GT (Ou A.shape.length) A.shape))
theorem XF {A:Al} (hA:CI A):Ami (Ou A.shape.length) A:=Rw hA (LD _) (AbV _)
theorem Agh {A:Al} (hA:CI A):Ae Tryz.prog 60 [.agg (Ao A),.sl 1 (Ab .i64 A.shape.reverse),.fn 88 [] []] (.agg (Ao (trA A))):=by
 have F:=XF hA;have e:=AkO (d:=A.shape) rfl;have h6:=hA.len
 have c:=Ah8 A hA.ok A.shape.reverse 88 List.reverse (by rw [← e]; exact F.e) (by rw [← e]; exact F.c) hA.cells
  (fun i hi=>Amk _ (by rw [Ch]; simp; omega))
  (fun i hi=>by
   have h1:=F.n i hi;rw [e,ZG (by rw [Ch]; simp)] at h1;exact ⟨_,h1.2.1,h1.1,by rw [List.length_reverse,Ch]; simp; omega⟩)
 rw [L3 (p:=GT (Ou A.shape.length) A.shape) (fun i hi=>by
  have h1:=F.n i hi;rw [e,ZG (by rw [Ch]; simp)] at h1;exact h1.1)] at c
 exact c
theorem AbW:Ae Tryz.prog 87 [.sl 1 []] (.tup []):=by
 have hz:((([]:List (List AV)).length:Nat):Int)=0:=rfl;refine Aa ET fun C hC => ?_;refine Af ?_;refine Ai [0] [] (fun i:Nat=>[(2,.lit (.int .i64 0)),(3,.lit (.int .i64 (-1)))]) (fun i=>[]) 0 (fun _=>True) (fun _=>0) 0 trivial ?_;rintro i _;dsimp only [List.cons_append,List.nil_append];refine Af ?_;exact Am
theorem AbX (A:Al) (hA:CI A):Ae Tryz.prog 29 [.agg (Ao A)] (.agg (Ao (trA A))):=by
 have c4:=Agh hA;have h6:=hA.len;have ls:=Ac .i64 A.shape;by_cases h:A.shape=[]
 ·have c1:Ae Tryz.prog 64 [.sl 1 (Ab .i64 A.shape)] (.sl 1 []):=by
   have:=CN (Ab .i64 A.shape) (by omega)
   rw [h] at this ⊢;exact this
  have c2:=AbW;rw [show A.shape.reverse=[] from by rw [h]; rfl,show Ab .i64 []=[] from rfl] at c4;generalize trA A=Z at c4 ⊢;refine AE Gz GA fun C hC => ?_;refine Af ?_;intro ds;refine Af ?_;exact Am
 ·have h0:A.shape.length≠0:=fun e=>h (List.eq_nil_of_length_eq_zero e)
  have c1:=N8 (Ab .i64 A.shape) (by omega) (by omega);have c2:=Vy A.shape (by omega);generalize trA A=Z at c4 ⊢;refine AE Gz GA fun C hC => ?_;refine Af ?_;intro ds;refine Af ?_;refine AH (BP ?_);refine Cw [] c1 ?_;refine BP ?_;refine Ak ⟨rfl,?_⟩;refine Af ?_;refine AH (BP ?_);refine Bn [(2,0)] c2 ?_;refine BP ?_;refine Ak ⟨rfl,?_⟩;refine A4 2 rfl ?_;refine LR 3 rfl rfl ?_;refine Af ?_;exact Am
theorem AkP {A:Al} (hA:CI A):(trA A).cells.length=A.cells.length∧∀ c ∈ (trA A).cells,c ∈ A.cells:=AeK hA (XF hA)
theorem Agi {A:Al} (hA:CI A) (oA:arrOK A):arrOK (trA A):=by
 obtain ⟨m1,m2⟩:=AkP hA;exact XC oA oA.parts.1 (fun z hz=>hA.small z (List.mem_reverse.1 hz)) (by have:=hA.len; show A.shape.reverse.length≤6; simp; omega) m1 m2
theorem Ank {A:Al} (hA:CI A) (first:Bool) (z:Int):(KD A first z).length=A.cells.length∧∀ c ∈ KD A first z,c ∈ A.cells:=by
 unfold KD;split
 ·exact ⟨rfl,fun c hc=>hc⟩
 ·rename_i h
  refine ⟨FM _ _,Rm fun i hi => ?_⟩;have K:=Nc hA first h (by omega)
  exact (K.idx hA hi (Nat.mod_lt _ K.L_pos)).2
theorem ZH {A:Al} (hA:CI A) (first:Bool):(Om A first).s=A.s∧(Om A first).shape=A.shape∧(Om A first).cells.length=A.cells.length∧∀ c ∈ (Om A first).cells,c ∈ A.cells:=by
 unfold Om;split
 ·exact ⟨rfl,rfl,rfl,fun c hc=>hc⟩
 ·rename_i h
  refine ⟨rfl,rfl,FM _ _,Rm fun i hi => ?_⟩;have K:=Nc hA first h (by omega)
  have hj:=U7 (B:=Fl A first) K.L_pos i
  have:=K.L_pos
  exact (K.idx hA hi (by omega)).2
theorem Adt {A R:Al} (hA:arrOK A) (hs:R.s<18446744073709551616) (hsh:R.shape=A.shape) (hl:R.cells.length=A.cells.length) (hm:∀ c ∈ R.cells,c ∈ A.cells):arrOK R:=by
 obtain ⟨s,sh,cs⟩:=R;obtain ⟨s2,sh2,cs2⟩:=A;simp only [Al.s,Al.shape,Al.cells] at *;subst hsh;simp only [arrOK] at hA ⊢;exact ⟨hs,hA.2.1,hA.2.2.1,by rw [hl]; exact hA.2.2.2.1,Bw.2 fun c hc=>Bw.1 hA.2.2.2.2 c (hm c hc)⟩
theorem Vz (K A:Al) (first:Bool):((IG K A first).2≠0∧(IG K A first).1=.mk 0 [] [])∨∃ z,(AB K).2=0∧(AB K).1=[z]∧IG K A first=(.mk (A.s ||| A8 K) A.shape (KD A first z),0):=by
 by_cases h0:(AB K).2=0
 ·rcases Ais (AB K).1 with ⟨z,hz⟩|hne
  ·exact .inr ⟨z,h0,hz,AeH h0 hz⟩
  ·rw [AbO h0 hne]; exact .inl ⟨by simp,rfl⟩
 ·left
  unfold IG;rw [if_pos h0];exact ⟨h0,rfl⟩
mutual
def Aix (o:Nat):Al→Bool
 | .mk s _ cs=>Aw s o && VA o cs
def VA (o:Nat):List Ah→Bool
 | []=>true
 | c::cs=>Aiy o c && VA o cs
def Aiy (o:Nat):Ah→Bool
 | .mk l _ _ _ ins=>Aw l o && VB o ins
def VB (o:Nat):List Al→Bool
 | []=>true
 | a::xs=>Aix o a && VB o xs
end
mutual
theorem VC (o:Nat):∀ (A:Al),Aw (A8 A) o=Aix o A
 | .mk s sh cs=>by simp only [A8,Aix]; exact XG o cs s
theorem XG (o:Nat):∀ (cs:List Ah) (n:Nat),Aw (Hu cs n) o=(Aw n o && VA o cs)
 | [],n=>by simp [Hu,VA]
 | c::cs,n=>by simp only [Hu,VA]; rw [XG o cs,Aiz o c,Bool.and_assoc]
theorem Aiz (o:Nat):∀ (c:Ah) (n:Nat),Aw (Adc c n) o=(Aw n o && Aiy o c)
 | .mk l _ _ _ ins,n=>by simp only [Adc,Aiy]; rw [XH o ins,AO,Bool.and_assoc]
theorem XH (o:Nat):∀ (xs:List Al) (n:Nat),Aw (Hv xs n) o=(Aw n o && VB o xs)
 | [],n=>by simp [Hv,VB]
 | a::xs,n=>by simp only [Hv,VB]; rw [XH o xs,AO,VC o a,Bool.and_assoc]
end
mutual
theorem VD (o:Nat):∀ (A B:Al),AJ o A B=true→Aix o A=true→A=B
 | .mk s sh cs,.mk s2 sh2 cs2,h,hv=>by
   simp only [Aix,Bool.and_eq_true] at hv;simp only [AJ,hv.1] at h;cases h2:Aw s2 o
   ·rw [h2] at h; simp at h
   ·rw [h2] at h
    simp only [and_self,if_true,Bool.and_eq_true,beq_iff_eq] at h;have e1:=XI o cs cs2 h.2.2 hv.2;have e2:sh=sh2:=by have:=h.2.1; unfold B5 at this; simpa using this
    rw [h.1,e2,e1]
theorem XI (o:Nat):∀ (cs ds:List Ah),Ay o cs ds=true→VA o cs=true→cs=ds
 | [],[],_,_=>rfl
 | [],_::_,h,_=>by simp [Ay] at h
 | _::_,[],h,_=>by simp [Ay] at h
 | c::cs,d::ds,h,hv=>by
   simp only [Ay,VA,Bool.and_eq_true] at h hv;rw [AiA o c d h.1 hv.1,XI o cs ds h.2 hv.2]
theorem AiA (o:Nat):∀ (c d:Ah),BN o c d=true→Aiy o c=true→c=d
 | .mk l k n c ins,.mk l2 k2 n2 c2 ins2,h,hv=>by
   simp only [Aiy,Bool.and_eq_true] at hv;simp only [BN,hv.1] at h;cases h2:Aw l2 o
   ·rw [h2] at h; simp at h
   ·rw [h2] at h
    simp only [and_self,if_true,Bool.and_eq_true,beq_iff_eq] at h;have e1:=XJ o ins ins2 h.2.2.2.2 hv.2;have e2:=(I1 n n2).1 h.2.2.2.1;rw [h.1,h.2.1,h.2.2.1,e2,e1]
theorem XJ (o:Nat):∀ (xs ys:List Al),Bq o xs ys=true→VB o xs=true→xs=ys
 | [],[],_,_=>rfl
 | [],_::_,h,_=>by simp [Bq] at h
 | _::_,[],h,_=>by simp [Bq] at h
 | a::xs,b::ys,h,hv=>by
   simp only [Bq,VB,Bool.and_eq_true] at h hv;rw [VD o a b h.1 hv.1,XJ o xs ys h.2 hv.2]
end
theorem JX {o:Nat} (ho:o<18446744073709551616) {K L:Al} (hK:okA K) (hL:okA L) (h:AJ o K L=true):K=L∨(Aw (A8 K) o=false∧Aw (A8 L) o=false):=by
 cases h1:Aw (A8 K) o
 ·cases h2:Aw (A8 L) o
  ·exact .inr ⟨rfl,rfl⟩
  ·rw [VC] at h2
   exact .inl (VD o L K (by rw [Abn ho hK hL]; exact h) h2).symm
 ·rw [VC] at h1
  exact .inl (VD o K L h h1)
theorem Ib {o:Nat} {cs ds:List Ah} (p:Nat→Nat) (h:Ay o cs ds=true):Ay o (CX cs p) (CX ds p)=true:=by
 have h0:=(Dq o).1 h;refine (Dq o).2 ⟨by rw [FM,FM]; exact h0.1,fun i => ?_⟩;by_cases hi:i<cs.length
 ·rw [U6 cs p hi,U6 ds p (by omega)]
  exact h0.2 _
 ·rw [List.getD_eq_getElem?_getD,List.getD_eq_getElem?_getD,List.getElem?_eq_none (by rw [FM]; omega),List.getElem?_eq_none (by rw [FM]; omega)]
  exact Vx o
theorem XK {o:Nat} {A B:Al} (hA:CI A) (hB:CI B) (first:Bool) (h:AJ o A B=true):AJ o (Om A first) (Om B first)=true:=by
 rcases Cm h with ⟨a1,a2⟩|⟨a1,a2,a3,a4,a5⟩
 ·exact Bs (by rw [(ZH hA first).1]; exact a1) (by rw [(ZH hB first).1]; exact a2)
 ·have e1:BA A first=BA B first:=by unfold BA Ol; rw [a4]
  have e2:Fl A first=Fl B first:=by unfold Fl Ol; rw [a4]
  unfold Om;rw [a4,e1,e2];split
  ·exact h
  ·exact BF a3 rfl (Ib _ a5)
theorem Agj {o:Nat} {A B:Al} (h:AJ o A B=true):AJ o (trA A) (trA B)=true:=by
 rcases Cm h with ⟨a1,a2⟩|⟨a1,a2,a3,a4,a5⟩
 ·exact Bs a1 a2
 ·unfold trA
  rw [a4];exact BF a3 rfl (Ib _ a5)
theorem Adu {o:Nat} {A B:Al} (first:Bool) (z:Int) (a4:A.shape=B.shape) (a5:Ay o A.cells B.cells=true):Ay o (KD A first z) (KD B first z)=true:=by
 have e1:BA A first=BA B first:=by unfold BA Ol; rw [a4]
 have e2:Fl A first=Fl B first:=by unfold Fl Ol; rw [a4]
 unfold KD;rw [a4,e1,e2];split
 ·exact a5
 ·exact Ib _ a5
theorem XL {o:Nat} (ho:o<18446744073709551616) {K L A B:Al} (hK:okA K) (hL:okA L) (first:Bool) (hk:AJ o K L=true) (h:AJ o A B=true) (h1:(IG K A first).2=0) (h2:(IG L B first).2=0):AJ o (IG K A first).1 (IG L B first).1=true:=by
 rcases Vz K A first with ⟨g1,_⟩|⟨y,y1,y2,y3⟩
 ·exact absurd h1 g1
 rcases Vz L B first with ⟨g1,_⟩|⟨z,z1,z2,z3⟩
 ·exact absurd h2 g1
 rw [y3,z3];rcases JX ho hK hL hk with e|⟨t1,t2⟩
 ·subst e
  rw [y2] at z2;simp only [List.cons.injEq,and_true] at z2;subst z2;rcases Cm h with ⟨a1,a2⟩|⟨a1,a2,a3,a4,a5⟩
  ·exact Bs (by show Aw (A.s ||| A8 K) o=false; rw [AO,a1]; rfl) (by show Aw (B.s ||| A8 K) o=false; rw [AO,a2]; rfl)
  ·exact BF (by show A.s ||| A8 K=B.s ||| A8 K; rw [a3]) a4 (Adu first y a4 a5)
 ·exact Bs (by show Aw (A.s ||| A8 K) o=false; rw [AO,t1,Bool.and_false]) (by show Aw (B.s ||| A8 L) o=false; rw [AO,t2,Bool.and_false])
theorem Agk {o:Nat} (ho:o<18446744073709551616) {K L A B:Al} (hK:okA K) (hL:okA L) (hk:AJ o K L=true) (h:AJ o A B=true) (h1:(LB K A).2=0) (h2:(LB L B).2=0):AJ o (LB K A).1 (LB L B).1=true:=by
 rcases Oq K A with ⟨g1,_⟩|⟨y1,y2,y3,y4⟩
 ·exact absurd h1 g1
 rcases Oq L B with ⟨g1,_⟩|⟨z1,z2,z3,z4⟩
 ·exact absurd h2 g1
 rw [y4,z4];rcases JX ho hK hL hk with e|⟨t1,t2⟩
 ·subst e
  rcases Cm h with ⟨a1,a2⟩|⟨a1,a2,a3,a4,a5⟩
  ·exact Bs (by show Aw (A.s ||| A8 K) o=false; rw [AO,a1]; rfl) (by show Aw (B.s ||| A8 K) o=false; rw [AO,a2]; rfl)
  ·rw [a4]
   exact BF (by show A.s ||| A8 K=B.s ||| A8 K; rw [a3]) rfl (Ib _ a5)
 ·exact Bs (by show Aw (A.s ||| A8 K) o=false; rw [AO,t1,Bool.and_false]) (by show Aw (B.s ||| A8 L) o=false; rw [AO,t2,Bool.and_false])
theorem AeO {D:List Int} {i j:Nat} {x y:Int} (hx:x.toNat=i) (hy:y.toNat=j) (hi:i<D.length) (hj:j<D.length) :
 (Ab .i64 D)[x.toNat]? = some [.lit (.int .i64 (D.getD i 0))]∧(Ab .i64 D)[y.toNat]? = some [.lit (.int .i64 (D.getD j 0))] ∧
  ((Ab .i64 D).set x.toNat [.lit (.int .i64 (D.getD j 0))])[y.toNat]? = some [.lit (.int .i64 (D.getD j 0))] ∧
    ((Ab .i64 D).set x.toNat [.lit (.int .i64 (D.getD j 0))]).set y.toNat [.lit (.int .i64 (D.getD i 0))]=Ab .i64 (swp D i j) ∧
      (((Ab .i64 D).set x.toNat [.lit (.int .i64 (D.getD j 0))]).length:Int)=D.length:=by
 subst hx; subst hy;obtain ⟨k1,k2,k3,hs⟩:=ZD hi hj;exact ⟨k1,k2,k3,hs,by rw [List.length_set]; exact Ac .i64 D⟩
theorem Adv (f:FuncId) (e1 e2:List (List AV)) (c:Int→Int→Int) (P:Int→Prop) (hf:∀ x y,P x→P y→Ae Tryz.prog f [nA x,nA y,.ep 1 e1 0 0,.ep 3 e2 0 0] (nA (c x y))) :
 ∀ (k:Nat) (D:List Int) (a m b:Nat),b - a≤k→D.length≤1000→(∀ z ∈ D,P z)→a<m→m<b→b≤D.length →
   Dn Tryz.prog 179 [.own 0,nA a,nA m,nA b,.fn f [] [.ep 1 e1 0 0,.ep 3 e2 0 0]] [(0,some ⟨true,false,3,1,Ab .i64 D⟩)] 1 (.tup []) [(0,some ⟨true,false,3,1,Ab .i64 (DV c k D a m b)⟩)] 1
 | 0,D,a,m,b,hk,hl,hD,h1,h2,hb=>by omega
 | k+1,D,a,m,b,hk,hl,hD,h1,h2,hb=>by
   have hp:(2:Int) ^ (min (1:Int).toNat IntKind.u64.bits)=2:=rfl;have lD:=Ac .i64 D;by_cases hg:m - a=1∨b - m=1
   case neg=>exact Amj f e1 e2 c P hf k (Adv f e1 e2 c P hf k) D a m b hk hl hD h1 h2 hb (by omega) (by omega)
   rw [DV];by_cases ha1:m - a=1
   ·rw [if_pos ha1]
    obtain ⟨a,rfl⟩:∃ x,a=x:=⟨a,rfl⟩;obtain rfl:m=a+1:=by omega
    have hir:=JW (fun h=>decide (c (D.getD h 0) (D.getD a 0)<0)) b (a+1) b (by omega);unfold AkL;generalize hI:WR (fun h=>decide (c (D.getD h 0) (D.getD a 0)<0)) b (a+1) b=I at hir ⊢;have ga:=Ga (D:=D) (i:=a) (by omega);have gak:=Az (k:=.i64) ga.2;refine BK Ce fun C hC => ?_;refine Aj ?_
    refine Ai [0,1,2,3,4] [0] (fun p:Nat × Nat × Nat=>[(10,nA p.2.1),(11,nA p.2.2)]) (fun _=>[]) 1
     (fun p=>p.2.2 - p.2.1≤p.1∧a+1≤p.2.1∧p.2.1≤p.2.2∧p.2.2≤b∧I=WR (fun h=>decide (c (D.getD h 0) (D.getD a 0)<0)) p.1 p.2.1 p.2.2) (fun p=>p.1) (b,a+1,b) ⟨by show b - (a+1)≤b; omega,Nat.le_refl _,by show a+1≤b; omega,Nat.le_refl _,hI.symm⟩ ?_
    rintro ⟨q,i,j⟩ ⟨g1,g2,g3,g4,hE⟩;dsimp only [List.cons_append,List.nil_append] at g1 g2 g3 g4 hE ⊢;clear hI;by_cases hij:i<j
    ·obtain ⟨q,rfl⟩:∃ x,q=x+1:=⟨q - 1,by omega⟩
     rw [WR,if_pos hij] at hE;have gh:=Ga (D:=D) (i:=(i+j) / 2) (by omega);have ghk:(Ab .i64 D)[(((i:Int)+j) / 2).toNat]? = some [.lit (.int .i64 (D.getD ((i+j) / 2) 0))]:=by rw [AeN,Int.toNat_natCast]; exact Az gh.2
     have w1:IntKind.u64.wrap ((i:Int)+j)=(i:Int)+j:=IntWalk.u64_in _ ⟨by omega,by omega⟩;have w2:IntKind.i64.wrap (((i:Int)+j) / 2)=((i:Int)+j) / 2:=IntWalk.i64_in _ ⟨by omega,by omega⟩;have c1:=hf _ _ (hD _ gh.1) (hD _ ga.1);generalize D.getD ((i+j) / 2) 0=u at *;generalize D.getD a 0=v at *;generalize c u v=t at *;by_cases ht:t<0
     ·rw [if_pos (by simpa using ht)] at hE
      refine Aj ?_;exact ⟨(q,(i+j) / 2+1,j),by show q<q+1; omega,⟨by show j - ((i+j) / 2+1)≤q; omega,by show a+1≤(i+j) / 2+1; omega,by show (i+j) / 2+1≤j; omega,g4,hE⟩,BI hC.m [] (by rw [show (((i+j) / 2+1:Nat):Int)=((i:Int)+j) / 2+1 from by omega]; rfl)⟩
     ·rw [if_neg (by simpa using ht)] at hE
      refine Aj ?_;exact ⟨(q,i,(i+j) / 2),by show q<q+1; omega,⟨by show (i+j) / 2 - i≤q; omega,g2,by show i≤(i+j) / 2; omega,by show (i+j) / 2≤b; omega,hE⟩,BI hC.m [] (by rw [show (((i+j) / 2:Nat):Int)=((i:Int)+j) / 2 from by omega]; rfl)⟩
    ·rw [Ti _ hij] at hE
     subst hE;clear hir;refine Aj ?_;refine Ai [0,1,10] [] (fun n:Nat=>[(13,nA ((a:Int)+n))]) (fun n=>[(0,some ⟨true,false,3,1,Ab .i64 (shU D a n)⟩)]) 1 (fun n=>n≤I - 1 - a) (fun n=>I - 1 - a - n) 0 (Nat.zero_le _) ?_ (ht:=by simp only [Int.natCast_zero,Int.add_zero]; rfl);intro n hn;dsimp only [List.cons_append,List.nil_append] at hn ⊢;have hrl:=P3 D a n;have lr:=Ac .i64 (shU D a n);rw [hrl] at lr;by_cases hlt:n<I - 1 - a
     ·obtain ⟨k1,k2,k3,hs,l3⟩:=AeO (D:=shU D a n) (i:=a+n) (j:=a+n+1) (x:=(a:Int)+n) (y:=(a:Int)+n+1) (by omega) (by omega) (by omega) (by omega)
      rw [show swp (shU D a n) (a+n) (a+n+1)=shU D a (n+1) from rfl] at hs;rw [hrl] at l3;generalize (shU D a n).getD (a+n+1) 0=v at *;generalize (shU D a n).getD (a+n) 0=u at *;generalize Ab .i64 (shU D a n)=R at *;refine Aj ?_;exact ⟨n+1,by omega,by omega,BI hC.m [] (by rw [← hs,show (a:Int)+((n+1:Nat):Int)=(a:Int)+n+1 from by omega]; rfl)⟩
     ·obtain rfl:n=I - 1 - a:=by omega
      refine Aj ?_;exact BZ []
   ·rw [if_neg ha1]
    by_cases hb1:b - m=1
    ·rw [if_pos hb1]
     obtain rfl:b=m+1:=by omega
     have hir:=JW (fun h => !decide (c (D.getD m 0) (D.getD h 0)<0)) m a m (by omega);unfold Anf;generalize hI:WR (fun h => !decide (c (D.getD m 0) (D.getD h 0)<0)) m a m=I at hir ⊢;have ga:=Ga (D:=D) (i:=m) (by omega);have gak:=Az (k:=.i64) ga.2;refine BK Ce fun C hC => ?_;refine Aj ?_
     refine Ai [0,1,2,3,4] [0] (fun p:Nat × Nat × Nat=>[(14,nA p.2.1),(15,nA p.2.2)]) (fun _=>[]) 1
      (fun p=>p.2.2 - p.2.1≤p.1∧a≤p.2.1∧p.2.1≤p.2.2∧p.2.2≤m∧I=WR (fun h => !decide (c (D.getD m 0) (D.getD h 0)<0)) p.1 p.2.1 p.2.2) (fun p=>p.1) (m,a,m) ⟨by show m - a≤m; omega,Nat.le_refl _,by show a≤m; omega,Nat.le_refl _,hI.symm⟩ ?_
     rintro ⟨q,i,j⟩ ⟨g1,g2,g3,g4,hE⟩;dsimp only [List.cons_append,List.nil_append] at g1 g2 g3 g4 hE ⊢;clear hI;by_cases hij:i<j
     ·obtain ⟨q,rfl⟩:∃ x,q=x+1:=⟨q - 1,by omega⟩
      rw [WR,if_pos hij] at hE;have gh:=Ga (D:=D) (i:=(i+j) / 2) (by omega);have ghk:(Ab .i64 D)[(((i:Int)+j) / 2).toNat]? = some [.lit (.int .i64 (D.getD ((i+j) / 2) 0))]:=by rw [AeN,Int.toNat_natCast]; exact Az gh.2
      have w1:IntKind.u64.wrap ((i:Int)+j)=(i:Int)+j:=IntWalk.u64_in _ ⟨by omega,by omega⟩;have w2:IntKind.i64.wrap (((i:Int)+j) / 2)=((i:Int)+j) / 2:=IntWalk.i64_in _ ⟨by omega,by omega⟩;have c1:=hf _ _ (hD _ ga.1) (hD _ gh.1);generalize D.getD ((i+j) / 2) 0=u at *;generalize D.getD m 0=v at *;generalize c v u=t at *;by_cases ht:t<0
      ·rw [if_neg (by simpa using ht)] at hE
       refine Aj ?_;exact ⟨(q,i,(i+j) / 2),by show q<q+1; omega,⟨by show (i+j) / 2 - i≤q; omega,g2,by show i≤(i+j) / 2; omega,by show (i+j) / 2≤m; omega,hE⟩,BI hC.m [] (by rw [show (((i+j) / 2:Nat):Int)=((i:Int)+j) / 2 from by omega]; rfl)⟩
      ·rw [if_pos (by simpa using ht)] at hE
       refine Aj ?_;exact ⟨(q,(i+j) / 2+1,j),by show q<q+1; omega,⟨by show j - ((i+j) / 2+1)≤q; omega,by show a≤(i+j) / 2+1; omega,by show (i+j) / 2+1≤j; omega,g4,hE⟩,BI hC.m [] (by rw [show (((i+j) / 2+1:Nat):Int)=((i:Int)+j) / 2+1 from by omega]; rfl)⟩
     ·rw [Ti _ hij] at hE
      subst hE;clear hir;refine Aj ?_;refine Ai [0,2,14] [] (fun n:Nat=>[(17,nA ((m:Int) - n))]) (fun n=>[(0,some ⟨true,false,3,1,Ab .i64 (shD D m n)⟩)]) 1 (fun n=>n≤m - I) (fun n=>m - I - n) 0 (Nat.zero_le _) ?_ (ht:=by simp only [Int.natCast_zero,Int.sub_zero]; rfl);intro n hn;dsimp only [List.cons_append,List.nil_append] at hn ⊢;have hrl:=P4 D m n;have lr:=Ac .i64 (shD D m n);rw [hrl] at lr;by_cases hlt:n<m - I
      ·obtain ⟨k1,k2,k3,hs,l3⟩:=AeO (D:=shD D m n) (i:=m - n) (j:=m - n - 1) (x:=(m:Int) - n) (y:=(m:Int) - n - 1) (by omega) (by omega) (by omega) (by omega)
       rw [show swp (shD D m n) (m - n) (m - n - 1)=shD D m (n+1) from rfl] at hs;rw [hrl] at l3;generalize (shD D m n).getD (m - n - 1) 0=v at *;generalize (shD D m n).getD (m - n) 0=u at *;generalize Ab .i64 (shD D m n)=R at *;refine Aj ?_;exact ⟨n+1,by omega,by omega,BI hC.m [] (by rw [← hs,show (m:Int) - ((n+1:Nat):Int)=(m:Int) - n - 1 from by omega]; rfl)⟩
      ·obtain rfl:n=m - I:=by omega
       refine Aj ?_;exact BZ []
    ·exact absurd hg (by omega)
end Go.Proofs.YtjcolpcfcdkckaaGreat
