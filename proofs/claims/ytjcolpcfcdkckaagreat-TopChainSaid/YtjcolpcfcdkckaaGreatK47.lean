/- Where a list's cells stand: grade.Grade. -/
import Derived.Test.YtjcolpcfcdkckaaGreatK42
import Derived.Test.YtjcolpcfcdkckaaGreatK43
import Derived.Test.YtjcolpcfcdkckaaGreatK44
import Derived.Test.YtjcolpcfcdkckaaGreatK46
set_option maxRecDepth 10000
set_option maxHeartbeats 8000000
namespace Go.Proofs.YtjcolpcfcdkckaaGreat
set_option linter.unusedVariables false
open Go.RowKit
noncomputable def AjC (A:Al) (down:Bool) (x y:Int):Int :=
 if down then VZ (A.cells.getD y.toNat AS) (A.cells.getD x.toNat AS) else VZ (A.cells.getD x.toNat AS) (A.cells.getD y.toNat AS)
def inA (A:Al) (x:Int):Prop:=0≤x∧x<A.cells.length
theorem AjD {d:Nat} (A:Al) (tA:Gb d A) (down:Bool) (x y:Int) (hx:inA A x) (hy:inA A y) :
 Ae Tryz.prog 99 [nA x,nA y,.ep 1 [[.lit (.bool down)]] 0 0,.ep 3 [Ao A] 0 0] (nA (AjC A down x y)):=by
 have lA:=AK A;obtain ⟨x0,x1⟩:=hx;obtain ⟨y0,y1⟩:=hy;have hX:A.cells[x.toNat]? = some (A.cells.getD x.toNat AS):=by rw [List.getD_eq_getElem?_getD,List.getElem?_eq_getElem (by omega)]; rfl
 have hY:A.cells[y.toNat]? = some (A.cells.getD y.toNat AS):=by rw [List.getD_eq_getElem?_getD,List.getElem?_eq_getElem (by omega)]; rfl
 have kX:=A9 hX;have kY:=A9 hY;have oX:=tA.cell (List.mem_of_getElem? hX);have oY:=tA.cell (List.mem_of_getElem? hY);unfold AjC;generalize A.cells.getD x.toNat AS=u at *;generalize A.cells.getD y.toNat AS=v at *;cases down
 ·have c1:=V1 d u v oX oY
  rw [if_neg (by decide)];generalize VZ u v=k at *;refine Aa Ho fun C hC => ?_;refine Aj ?_;exact Am
 ·have c1:=V1 d v u oY oX
  rw [if_pos rfl];generalize VZ v u=k at *;refine Aa Ho fun C hC => ?_;refine Aj ?_;exact Am
def WW (n:Nat):List Int:=(List.range n).map fun i:Nat=>(i:Int)
noncomputable def AdJ (A:Al) (down:Bool):List Int:=AbY (AjC A down) (WW A.cells.length)
noncomputable def Qo (A:Al) (down:Bool):List Ah:=(AdJ A down).map fun k=>BV (k+1)
noncomputable def Qp (A:Al) (down:Bool):Al × Int:=if A.shape.length≠1 then (zA,5) else (FQ (.mk 0 [((Qo A down).length:Int)] (Qo A down)) (A8 A),0)
theorem Afj (A:Al):∀ z ∈ WW A.cells.length,inA A z:=fun z hz=>by
 unfold WW at hz;obtain ⟨i,hi,rfl⟩:=List.mem_map.1 hz
 have:=List.mem_range.1 hi
 exact ⟨by omega,by omega⟩
theorem Acm (n:Nat):(WW n).length=n:=by simp [WW]
theorem Afk (A:Al) (down:Bool):∀ z ∈ AdJ A down,inA A z:=fun z hz=>Afj A z (AiE _ _ z hz)
theorem Acn (A:Al) (down:Bool):(AdJ A down).length=A.cells.length:=by unfold AdJ; rw [AiD,Acm]
theorem Afl {d:Nat} (A:Al) (tA:Gb d A) (hl:A.cells.length≤1000) (down:Bool):Ae Tryz.prog 38 [.agg (Ao A),.lit (.bool down)] (.tup [.agg (Ao (Qp A down).1),nA (Qp A down).2]):=by
 have kA:=tA.j;have ls:=Ac .i64 A.shape;have lA:=AK A;unfold Qp;by_cases h:A.shape.length=1
 ·rw [if_neg (fun g=>g h)]
  have hin:=Afk A down;have hgl:=Acn A down;have cs:=AkQ 99 [[.lit (.bool down)]] [Ao A] (AjC A down) (inA A) (AjD A tA down) (WW A.cells.length) (by rw [Acm]; exact hl) (Afj A);rw [show AbY (AjC A down) (WW A.cells.length)=AdJ A down from rfl] at cs
  have hok:∀ c ∈ Qo A down,okC c:=fun c hc=>by
   obtain ⟨z,hz,rfl⟩:=List.mem_map.1 hc
   have:=hin z hz
   unfold inA at this;exact Y7 _ (by omega)
  have hCS:∀ (k:Nat) z,(AdJ A down)[k]? = some z→(Qo A down)[k]? = some (BV (z+1)):=fun k z h=>by unfold Qo; rw [List.getElem?_map,h]; rfl
  have hCl:(Qo A down).length=A.cells.length:=by unfold Qo; rw [List.length_map,hgl]
  have c2:=Jb (Qo A down) (by omega) (fun c hc=>(hok c hc).lens);have c3:=C9 A kA.ok;have c4:=Gu (.mk 0 [((Qo A down).length:Int)] (Qo A down)) (A8 A) (by show 0<_; omega) (Bg A kA.ok);generalize FQ (.mk 0 [((Qo A down).length:Int)] (Qo A down)) (A8 A)=Z at *;clear hok tA;generalize Qo A down=CS at *;generalize AdJ A down=GL at *;have e0:=DI Au Bd CS;rw [hCl] at e0;have f0:=DI (fun i:Nat=>[nA (i:Int)]) [nA 0] (List.range A.cells.length);have fl:(List.range A.cells.length).length=A.cells.length:=List.length_range;rw [fl] at f0;have fend:(List.range A.cells.length).map (fun i:Nat=>[nA (i:Int)])=Ab .i64 (WW A.cells.length):=by unfold WW Ab; rw [List.map_map]; rfl
  refine AE I7 Jn fun C hC => ?_;refine Aj ?_;intro ds;refine Aj ?_;refine Eu 22 (nA (A.cells.length:Int)) (by show AV.lit (.int .i64 ((List.replicate _ _).length:Int))=_; rw [List.length_replicate,Int.toNat_natCast]) ?_
  refine Ai [2,3,4,5,6,22] [0,1,2,3] (fun k:Nat=>[(23,nA k)]) (fun k=>[(4,some ⟨true,false,3,1,Gk (fun i:Nat=>[nA (i:Int)]) [nA 0] (List.range A.cells.length) k⟩)]) 5
   (fun k=>k≤A.cells.length) (fun k=>A.cells.length - k) 0 (Nat.zero_le _) ?_ (hh:=by rw [← f0]; simp only [Int.toNat_natCast]; rfl)
  intro k hk;dsimp only [List.cons_append,List.nil_append] at hk ⊢;by_cases hlt:k<A.cells.length
  ·have hset:=DY (fun i:Nat=>[nA (i:Int)]) [nA 0] (List.range A.cells.length) k k (by rw [List.getElem?_range hlt])
   have hget:=DX (fun i:Nat=>[nA (i:Int)]) [nA 0] (List.range A.cells.length) k (by omega);have hll:=DW (fun i:Nat=>[nA (i:Int)]) [nA 0] (List.range A.cells.length) k (by omega);clear cs c2 c3 c4 hCS;refine Aj ?_;exact ⟨k+1,by omega,by omega,BI hC.m [] (by rw [← hset]; rfl)⟩
  ·rw [DZ _ _ _ k (by omega),fend]
   clear f0 fl fend;generalize Ab .i64 (WW A.cells.length)=NL at *;have lG:((Ab .i64 GL).length:Int)=A.cells.length:=by rw [Ac,hgl]
   have hgk:∀ (k:Nat) z,GL[k]? = some z→(Ab .i64 GL)[((k:Nat):Int).toNat]? = some [.lit (.int .i64 z)]:=fun k z h=>Az h;generalize hGR:Ab .i64 GL=GR at *;clear hGR;refine A4 0 rfl ?_;refine A4 1 rfl ?_;refine LR 2 rfl rfl ?_;refine LR 3 rfl rfl ?_;have kk:True→_:=fun _=>cs;clear cs;refine Aj ?_;have cs:=kk trivial;refine Bn [(4,0)] cs ?_;refine A5 ?_;refine Ak ⟨rfl,?_⟩;clear cs kk;refine Aj ?_
   refine Ai [2,4,5,8,37,38] [2,3,4] (fun k:Nat=>[(39,nA k)]) (fun k=>[(5,some ⟨true,false,43,7,Gk Au Bd CS k⟩)]) 6
    (fun k=>k≤A.cells.length) (fun k=>A.cells.length - k) 0 (Nat.zero_le _) ?_ (hh:=by rw [← e0]; simp only [Int.toNat_natCast]; rfl)
   intro k hk;dsimp only [List.cons_append,List.nil_append] at hk ⊢;by_cases hlt:k<A.cells.length
   ·obtain ⟨z,hz⟩:∃ z,GL[k]? = some z:=⟨_,List.getElem?_eq_getElem (by omega)⟩
    have hzk:=hgk k z hz;have hzi:=hin z (List.mem_of_getElem? hz);unfold inA at hzi;have c5:=DJ (z+1) (by omega) (by omega);have hset:=DY Au Bd CS k _ (hCS k z hz);have hget:=DX Au Bd CS k (by omega);have hll:=DW Au Bd CS k (by omega);clear c2 c3 c4 hCS hgk hin;refine Aj ?_;exact ⟨k+1,by omega,by omega,BI hC.m [] (by rw [← hset]; rfl)⟩
   ·rw [DZ Au Bd CS k (by omega),show CS.map Au=CS.map Av from by simp [Bv]]
    clear hCS hgk hin;refine A4 5 rfl ?_;refine Aj ?_;exact Am
 ·rw [if_pos h]
  refine AE I7 Jn fun C hC => ?_;refine Aj ?_;intro ds;refine Aj ?_;exact Am
noncomputable def Aco (f:Int) (d:Nat) (A:Al):Al × Int :=
 if f=9076 then (AgA A,0) else if f=44 then (Ajq A,0) else if f=9066 then (ZF A,0) else if f=9021 then (Om A false,0) else if f=8854 then (Om A true,0) else
 if f=9033 then (trA A,0) else if f=8834 then VW A else if f=8835 then (Z7 A,0) else if f=8801 then (AgB A,0) else if f=8802 then (Z6 A,0) else
 if f=8866 then (A,0) else if f=8867 then (A,0) else if f=9075 then WT A else if f=8714 then WS A else if f=8746 then WV A else if f=9080 then WU A else
 if f=9035 then Qp A false else if f=9042 then Qp A true else Acl f d A
theorem J4 {o:Nat} (ho:o<18446744073709551616) {A A':Al} (kA:okA A) (kA':okA A') (hA:AJ o A A'=true) (F:Al→Al × Int) (hl:∀ A,(F A).2=0→(F A).1.s=A8 A):RJ o (F A) (F A'):=fun e1 e2=>by
 rcases JX ho kA kA' hA with rfl|⟨n1,n2⟩
 ·exact LJ ..
 ·exact Bs (by rw [hl A e1,n1]) (by rw [hl A' e2,n2])
theorem X1 {o:Nat} {A A':Al} (hA:AJ o A A'=true) (F:Al→Al × Int) (hl:∀ A,(F A).2=0→Aw A.s o=false→Aw (F A).1.s o=false)
 (hs:A.s=A'.s→A.shape=A'.shape→Ay o A.cells A'.cells=true→(F A).2=0→(F A').2=0→AJ o (F A).1 (F A').1=true):RJ o (F A) (F A'):=fun e1 e2=>by
 rcases Cm hA with ⟨a1,a2⟩|⟨a1,a2,a3,a4,a5⟩
 ·exact Bs (hl A e1 a1) (hl A' e2 a2)
 ·exact hs a3 a4 a5 e1 e2
theorem zor (a:Nat):0 ||| a=a:=Nat.zero_or a
theorem AmF {N:Al} (e:(WT N).2=0):(WT N).1.s=A8 N:=by
 unfold WT at e ⊢;split at e
 ·rename_i h; exact absurd e h
 rename_i h; rw [if_neg h];split at e
 ·simp at e
 rename_i h; rw [if_neg h];split at e
 ·simp at e
 rename_i h; rw [if_neg h];split at e
 ·simp at e
 rename_i h; rw [if_neg h]; exact zor _
theorem AmG {N:Al} (e:(WU N).2=0):(WU N).1.s=A8 N:=by
 unfold WU at e ⊢;split at e
 ·rename_i h; exact absurd e h
 rename_i h; rw [if_neg h];split at e
 ·simp at e
 rename_i h; rw [if_neg h];split at e
 ·simp at e
 rename_i h; rw [if_neg h]; exact zor _
theorem AmH {N:Al} (e:(WV N).2=0):(WV N).1.s=A8 N:=by
 unfold WV at e ⊢;split at e
 ·simp at e
 rename_i h; rw [if_neg h]; exact zor _
theorem AjE {N:Al} {down:Bool} (e:(Qp N down).2=0):(Qp N down).1.s=A8 N:=by
 unfold Qp at e ⊢;split at e
 ·simp at e
 rename_i h; rw [if_neg h]; exact zor _
theorem AmI {N:Al} (e:(WS N).2=0):(WS N).1.s=A8 N:=by
 unfold WS at e ⊢;split at e
 ·simp at e
 rename_i h; rw [if_neg h]; rfl
theorem AmJ {o:Nat} {A A':Al} (hA:AJ o A A'=true):RJ o (VW A) (VW A'):=by
 refine X1 hA _ (fun A e h => ?_) fun a3 a4 a5 e1 e2 => ?_
 ·unfold VW at e ⊢
  split at e
  ·rename_i g; rw [if_pos g]; exact h
  rename_i g; rw [if_neg g];split at e
  ·simp at e
  rename_i g; rw [if_neg g]; exact h
 ·have hb:Ff A=Ff A':=by unfold Ff; rw [a4,Ow a5]
  have box:∀ {l l':Nat},l=l'∨(Aw l o=false∧Aw l' o=false)→BN o (.mk l 2 zN 0 [A]) (.mk l' 2 zN 0 [A'])=true:=fun {l l'} h=>by
   rcases h with rfl|⟨h1,h2⟩
   ·exact Ie rfl rfl rfl rfl (ZX hA)
   ·exact EN h1 h2
  have hl:Qk A=Qk A'∨(Aw (Qk A) o=false∧Aw (Qk A') o=false):=by
   unfold Qk;rw [a4];split
   ·rcases D6 (RI a5 0) with h|⟨_,_,h,_⟩
    ·exact .inr h
    ·exact .inl h
   ·exact .inl rfl
  unfold VW at e1 e2 ⊢;by_cases s1:Acj A=true
  ·by_cases s2:Acj A'=true
   ·rw [if_pos s1,if_pos s2]; exact hA
   ·rw [if_neg s2] at e2
    rw [if_pos s1,if_neg s2];split at e2
    ·simp at e2
    rename_i g; rw [if_neg g];unfold Acj at s1 s2;rw [Bool.and_eq_true] at s1;rw [← hb,s1.1,Bool.true_and] at s2;have al:=H6 s1.1;obtain ⟨l,k,n,c,ins,e⟩:=P5 s1.1;obtain ⟨l2,k2,n2,c2,ins2,e'⟩:=P5 (hb ▸ s1.1);rw [e,e',Ay,Bool.and_eq_true] at a5;rw [e] at s1;rw [e'] at s2
    have hh:Aw l o=false∧Aw l2 o=false:=by
     rcases D6 a5.1 with h|⟨_,_,_,h,_⟩
     ·exact h
     ·refine absurd ?_ s2
      have h:k=k2:=h
      have:=s1.2
      simp only [List.getD_cons_zero,Ah.kind] at this ⊢;rw [← h]; exact this
    refine BF a3 (List.eq_nil_of_length_eq_zero al.1) ?_;show Ay o A.cells _=true;have hbl:Qk A'=l2:=by unfold Qk; rw [← a4,if_pos al.1,e']; rfl
    rw [e]; exact RH (EN hh.1 (by show Aw (Qk A') o=false; rw [hbl]; exact hh.2))
  ·rw [if_neg s1] at e1
   split at e1
   ·simp at e1
   rename_i g1;by_cases s2:Acj A'=true
   ·rw [if_neg s1,if_neg g1,if_pos s2]
    unfold Acj at s1 s2;rw [Bool.and_eq_true] at s2;rw [hb,s2.1,Bool.true_and] at s1;have al:=H6 s2.1;obtain ⟨l,k,n,c,ins,e⟩:=P5 (hb ▸ s2.1);obtain ⟨l2,k2,n2,c2,ins2,e'⟩:=P5 s2.1;rw [e,e',Ay,Bool.and_eq_true] at a5;rw [e] at s1;rw [e'] at s2
    have hh:Aw l o=false∧Aw l2 o=false:=by
     rcases D6 a5.1 with h|⟨_,_,_,h,_⟩
     ·exact h
     ·refine absurd ?_ s1
      have h:k=k2:=h
      have:=s2.2
      simp only [List.getD_cons_zero,Ah.kind] at this ⊢;rw [h]; exact this
    refine BF a3 (List.eq_nil_of_length_eq_zero al.1).symm ?_;show Ay o _ A'.cells=true;have hbl:Qk A=l:=by unfold Qk; rw [a4,if_pos al.1,e]; rfl
    rw [e']; exact RH (EN (by show Aw (Qk A) o=false; rw [hbl]; exact hh.1) hh.2)
   ·rw [if_neg s2] at e2
    rw [if_neg s1,if_neg g1,if_neg s2];split at e2
    ·simp at e2
    rename_i g2; rw [if_neg g2];exact BF a3 rfl (RH (box hl))
theorem AmK {o:Nat} {A A':Al} (hA:AJ o A A'=true):RJ o (Z7 A,0) (Z7 A',0):=by
 refine X1 hA (fun A=>(Z7 A,0)) (fun A e h => ?_) fun a3 a4 a5 e1 e2 => ?_
 ·show Aw (_ ||| A.s) o=false
  rw [AO,h,Bool.and_false]
 ·have hc:BN o (if A.cells.length > 0 then A.cells.getD 0 AS else Gc A) (if A'.cells.length > 0 then A'.cells.getD 0 AS else Gc A')=true:=by
   rw [Ow a5];split
   ·exact RI a5 0
   ·exact Z0 a5
  exact AdB (Ajf hc) (.inl a3)
theorem AjF {one:Al→Al × Int} {f:Int} {x:Ah} (h:(IL one f x).2=0):(IL one f x).1.l=x.l:=by
 unfold IL at h ⊢;split
 ·rfl
 ·split
  ·rfl
  ·rename_i h1 h2; rw [if_neg h1,if_neg h2] at h; simp at h
theorem Alb {o:Nat} (one:Al→Al × Int) (ht:∀ A A',AJ o A A'=true→RJ o (one A) (one A')) (f:Int) {x x':Ah} (hx:BN o x x'=true)
 (e1:(IL one f x).2=0) (e2:(IL one f x').2=0):BN o (IL one f x).1 (IL one f x').1=true:=by
 rcases D6 hx with ⟨a1,a2⟩|⟨_,_,x1,x2,x3,x4,x5⟩
 ·exact EN (by rw [AjF e1,a1]) (by rw [AjF e2,a2])
 have h:=ht _ _ (Z3 x2 x3 x4 x5);unfold IL at e1 e2 ⊢;rw [x1,x2,x3];rw [x2,x3] at e1;split
 ·exact HE ..
 ·rename_i g
  rw [if_neg g] at e1 e2;split
  ·rename_i g
   rw [if_pos g] at e1 e2;exact Ie rfl rfl rfl rfl (ZX (h e1 e2))
  ·exact HE ..
theorem Acp {o:Nat} (f g:Ah→Ah):∀ {cs ds:List Ah},Ay o cs ds=true→(∀ c ∈ cs,∀ d ∈ ds,BN o c d=true→BN o (f c) (g d)=true)→Ay o (cs.map f) (ds.map g)=true
 | [],[],_,_=>RF o
 | c::cs,d::ds,h,k=>by
   rw [Ay,Bool.and_eq_true] at h;rw [List.map_cons,List.map_cons,Ay,k c (List.mem_cons_self ..) d (List.mem_cons_self ..) h.1,Acp f g h.2 fun a ha b hb=>k a (List.mem_cons_of_mem _ ha) b (List.mem_cons_of_mem _ hb)]; rfl
 | [],_::_,h,_=>by simp [Ay] at h
 | _::_,[],h,_=>by simp [Ay] at h
theorem Afm {o:Nat} (one:Al→Al × Int) (ht:∀ A A',AJ o A A'=true→RJ o (one A) (one A')) (f:Int) {A A':Al} (hA:AJ o A A'=true):RJ o (V4 one f A) (V4 one f A'):=by
 refine X1 hA _ (fun A e h => ?_) fun a3 a4 a5 e1 e2 => ?_
 ·unfold V4 at e ⊢
  split at e
  ·simp at e
  rename_i g; rw [if_neg g];split at e
  ·rename_i g; exact absurd e g
  rename_i g; rw [if_neg g]; exact h
 ·unfold V4 at e1 e2 ⊢
  split at e1
  ·simp at e1
  rename_i h0;rw [if_neg h0] at e2;rw [if_neg h0,if_neg h0];split at e1
  ·rename_i g; exact absurd e1 g
  rename_i g1;split at e2
  ·rename_i g; exact absurd e2 g
  rename_i g2;rw [if_neg g1,if_neg g2];refine BF a3 a4 (Acp _ _ a5 fun c hc d hd hcd=>Alb one ht f hcd ?_ ?_)
  ·exact LK (Classical.not_not.1 g1) _ (List.mem_map.2 ⟨c,hc,rfl⟩)
  ·exact LK (Classical.not_not.1 g2) _ (List.mem_map.2 ⟨d,hd,rfl⟩)
theorem Afn {o:Nat} (f:Int):∀ (d:Nat) (A A':Al),AJ o A A'=true→RJ o (Acl f d A) (Acl f d A')
 | 0,A,A',hA=>Afm _ (fun _ _ _ e _=>by simp at e) f hA
 | d+1,A,A',hA=>Afm _ (fun A A' hA=>Afn f d A A' hA) f hA
theorem Alc {o:Nat} (ho:o<18446744073709551616) {A A':Al} (kA:CI A) (kA':CI A') (hA:AJ o A A'=true) (f:Int) (d:Nat):RJ o (Aco f d A) (Aco f d A'):=by
 unfold Aco;by_cases h9076:f=9076
 ·rw [if_pos h9076,if_pos h9076]
  exact X1 hA (fun A=>(AgA A,0)) (fun A e h=>h) fun a3 a4 a5 e1 e2=>BF a3 (by show [_]=[_]; rw [a4]) (by show Ay o (List.map _ _) (List.map _ _)=true; rw [a4]; exact RE ..)
 rw [if_neg h9076,if_neg h9076];by_cases h44:f=44
 ·rw [if_pos h44,if_pos h44]
  exact X1 hA (fun A=>(Ajq A,0)) (fun A e h=>h) fun a3 a4 a5 e1 e2=>BF a3 (by show [_]=[_]; rw [Ow a5]) a5
 rw [if_neg h44,if_neg h44];by_cases h9066:f=9066
 ·rw [if_pos h9066,if_pos h9066]; exact fun _ _=>Agd hA
 rw [if_neg h9066,if_neg h9066];by_cases h9021:f=9021
 ·rw [if_pos h9021,if_pos h9021]; exact fun _ _=>XK kA kA' false hA
 rw [if_neg h9021,if_neg h9021];by_cases h8854:f=8854
 ·rw [if_pos h8854,if_pos h8854]; exact fun _ _=>XK kA kA' true hA
 rw [if_neg h8854,if_neg h8854];by_cases h9033:f=9033
 ·rw [if_pos h9033,if_pos h9033]; exact fun _ _=>Agj hA
 rw [if_neg h9033,if_neg h9033];by_cases h8834:f=8834
 ·rw [if_pos h8834,if_pos h8834]; exact AmJ hA
 rw [if_neg h8834,if_neg h8834];by_cases h8835:f=8835
 ·rw [if_pos h8835,if_pos h8835]; exact AmK hA
 rw [if_neg h8835,if_neg h8835];by_cases h8801:f=8801
 ·rw [if_pos h8801,if_pos h8801]; exact J4 ho kA.ok kA'.ok hA (fun A=>(AgB A,0)) fun A _=>zor _
 rw [if_neg h8801,if_neg h8801];by_cases h8802:f=8802
 ·rw [if_pos h8802,if_pos h8802]
  exact X1 hA (fun A=>(Z6 A,0)) (fun A e h=>by show Aw (0 ||| A.s) o=false; rw [zor]; exact h) fun a3 a4 a5 e1 e2=>by show AJ o (Z6 A) (Z6 A')=true; unfold Z6; rw [a3,a4]; exact LJ ..
 rw [if_neg h8802,if_neg h8802];by_cases h8866:f=8866
 ·rw [if_pos h8866,if_pos h8866]; exact fun _ _=>hA
 rw [if_neg h8866,if_neg h8866];by_cases h8867:f=8867
 ·rw [if_pos h8867,if_pos h8867]; exact fun _ _=>hA
 rw [if_neg h8867,if_neg h8867];by_cases h9075:f=9075
 ·rw [if_pos h9075,if_pos h9075]; exact J4 ho kA.ok kA'.ok hA _ fun _=>AmF
 rw [if_neg h9075,if_neg h9075];by_cases h8714:f=8714
 ·rw [if_pos h8714,if_pos h8714]; exact J4 ho kA.ok kA'.ok hA _ fun _=>AmI
 rw [if_neg h8714,if_neg h8714];by_cases h8746:f=8746
 ·rw [if_pos h8746,if_pos h8746]; exact J4 ho kA.ok kA'.ok hA _ fun _=>AmH
 rw [if_neg h8746,if_neg h8746];by_cases h9080:f=9080
 ·rw [if_pos h9080,if_pos h9080]; exact J4 ho kA.ok kA'.ok hA _ fun _=>AmG
 rw [if_neg h9080,if_neg h9080];by_cases h9035:f=9035
 ·rw [if_pos h9035,if_pos h9035]; exact J4 ho kA.ok kA'.ok hA (fun A=>Qp A false) fun _=>AjE
 rw [if_neg h9035,if_neg h9035];by_cases h9042:f=9042
 ·rw [if_pos h9042,if_pos h9042]; exact J4 ho kA.ok kA'.ok hA (fun A=>Qp A true) fun _=>AjE
 rw [if_neg h9042,if_neg h9042];exact Afn f d A A' hA
theorem AjG (f:Int) {d:Nat} (A:Al) (tA:Gb d A) (rA:Cl 8 A=true) (hl:A.cells.length≤1000):Ae Tryz.prog 8 [nA f,.agg (Ao A)] (.tup [.agg (Ao (Aco f d A).1),nA (Aco f d A).2]):=by
 have kA:=tA.j;have oA:=tA.arrOK;unfold Aco;by_cases h9076:f=9076
 ·subst h9076
  rw [if_pos rfl];have c1:=Ajp A kA;generalize AgA A=R at *;clear oA kA tA rA hl;refine Aa Bb fun C hC => ?_;refine Aj ?_;exact Am
 rw [if_neg h9076];by_cases h44:f=44
 ·subst h44
  rw [if_pos rfl];have c1:=Ak2 A (by have:=kA.cells; omega);generalize Ajq A=R at *;clear oA kA tA rA hl;refine Aa Bb fun C hC => ?_;refine Aj ?_;exact Am
 rw [if_neg h44];by_cases h9066:f=9066
 ·subst h9066
  rw [if_pos rfl];have c1:=AkM A kA;generalize ZF A=R at *;clear oA kA tA rA hl;refine Aa Bb fun C hC => ?_;refine Aj ?_;exact Am
 rw [if_neg h9066];by_cases h9021:f=9021
 ·subst h9021
  rw [if_pos rfl];have c1:=Xy A false kA;generalize Om A false=R at *;clear oA kA tA rA hl;refine Aa Bb fun C hC => ?_;refine Aj ?_;exact Am
 rw [if_neg h9021];by_cases h8854:f=8854
 ·subst h8854
  rw [if_pos rfl];have c1:=Xy A true kA;generalize Om A true=R at *;clear oA kA tA rA hl;refine Aa Bb fun C hC => ?_;refine Aj ?_;exact Am
 rw [if_neg h8854];by_cases h9033:f=9033
 ·subst h9033
  rw [if_pos rfl];have c1:=AbX A kA;generalize trA A=R at *;clear oA kA tA rA hl;refine Aa Bb fun C hC => ?_;refine Aj ?_;exact Am
 rw [if_neg h9033];by_cases h8834:f=8834
 ·subst h8834
  rw [if_pos rfl];have c1:=AgC (d:=8) A (by omega) kA rA;generalize VW A=R at *;clear oA kA tA rA hl;refine Aa Bb fun C hC => ?_;refine Aj ?_;exact Am
 rw [if_neg h8834];by_cases h8835:f=8835
 ·subst h8835
  rw [if_pos rfl];have c1:=Ak5 A tA;generalize Z7 A=R at *;clear oA kA tA rA hl;refine Aa Bb fun C hC => ?_;refine Aj ?_;exact Am
 rw [if_neg h8835];by_cases h8801:f=8801
 ·subst h8801
  rw [if_pos rfl];have c1:=Ajr (d:=8) A (by omega) kA.ok rA (JQ 8 A rA).1 (by have:=(JQ 8 A rA).2; omega);generalize AgB A=R at *;clear oA kA tA rA hl;refine Aa Bb fun C hC => ?_;refine Aj ?_;exact Am
 rw [if_neg h8801];by_cases h8802:f=8802
 ·subst h8802
  rw [if_pos rfl];have c1:=Ak3 A kA;generalize Z6 A=R at *;clear oA kA tA rA hl;refine Aa Bb fun C hC => ?_;refine Aj ?_;exact Am
 rw [if_neg h8802];by_cases h8866:f=8866
 ·subst h8866
  rw [if_pos rfl];clear oA kA tA rA hl;refine Aa Bb fun C hC => ?_;refine Aj ?_;exact Am
 rw [if_neg h8866];by_cases h8867:f=8867
 ·subst h8867
  rw [if_pos rfl];clear oA kA tA rA hl;refine Aa Bb fun C hC => ?_;refine Aj ?_;exact Am
 rw [if_neg h8867];by_cases h9075:f=9075
 ·subst h9075
  rw [if_pos rfl];have c1:=AmA A oA kA;generalize WT A=R at *;clear oA kA tA rA hl;refine Aa Bb fun C hC => ?_;refine Aj ?_;exact Am
 rw [if_neg h9075];by_cases h8714:f=8714
 ·subst h8714
  rw [if_pos rfl];have c1:=Ajw A tA;generalize WS A=R at *;clear oA kA tA rA hl;refine Aa Bb fun C hC => ?_;refine Aj ?_;exact Am
 rw [if_neg h8714];by_cases h8746:f=8746
 ·subst h8746
  rw [if_pos rfl];have c1:=Ajx A kA;generalize WV A=R at *;clear oA kA tA rA hl;refine Aa Bb fun C hC => ?_;refine Aj ?_;exact Am
 rw [if_neg h8746];by_cases h9080:f=9080
 ·subst h9080
  rw [if_pos rfl];have c1:=Ak8 A oA kA;generalize WU A=R at *;clear oA kA tA rA hl;refine Aa Bb fun C hC => ?_;refine Aj ?_;exact Am
 rw [if_neg h9080];by_cases h9035:f=9035
 ·subst h9035
  rw [if_pos rfl];have c1:=Afl A tA hl false;generalize Qp A false=R at *;clear oA kA tA rA hl;refine Aa Bb fun C hC => ?_;refine Aj ?_;exact Am
 rw [if_neg h9035];by_cases h9042:f=9042
 ·subst h9042
  rw [if_pos rfl];have c1:=Afl A tA hl true;generalize Qp A true=R at *;clear oA kA tA rA hl;refine Aa Bb fun C hC => ?_;refine Aj ?_;exact Am
 rw [if_neg h9042];have c1:=AjB f d A tA;generalize Acl f d A=R at *;clear oA kA tA rA hl;refine Aa Bb fun C hC => ?_;refine Aj ?_;exact Am
mutual
theorem Afo:∀ {A:Al},arrOK A→∀ c ∈ HF A,cellOK c
 | .mk s sh cs,h=>by simp only [arrOK] at h; rw [HF]; exact Acq h.2.2.2.2
theorem Acq:∀ {cs:List Ah},CT cs→∀ c ∈ DT cs,cellOK c
 | [],_,c,hc=>by simp [DT] at hc
 | d::cs,h,c,hc=>by
   simp only [CT] at h;rw [DT] at hc;rcases List.mem_append.1 hc with g|g
   ·exact Ald h.1 c g
   ·exact Acq h.2 c g
theorem Ald:∀ {d:Ah},cellOK d→∀ c ∈ Z8 d,cellOK c
 | .mk l k n ch ins,h,c,hc=>by
   have h0:=h;simp only [cellOK] at h;rw [Z8] at hc;split at hc
   ·exact Acr h.2.2.2.2.2 c hc
   ·simp only [List.mem_cons,List.not_mem_nil,or_false] at hc
    rw [hc]; exact h0
theorem Acr:∀ {us:List Al},Dh us→∀ c ∈ VX us,cellOK c
 | [],_,c,hc=>by simp [VX] at hc
 | a::us,h,c,hc=>by
   simp only [Dh] at h;rw [VX] at hc;rcases List.mem_append.1 hc with g|g
   ·exact Afo h.1 c g
   ·exact Acr h.2 c g
end
theorem Ale {p:Al→Prop} (one:Al→Al × Int) (f:Int) {x:Ah} (hx:Cz p x) (ht:arrOK (one (CD x)).1):cellOK (IL one f x).1:=by
 unfold IL;split
 ·rename_i h0
  have q:JY x.n:=by
   rcases hx.2 with h|h|h
   ·exact h.2.2.2
   ·have:=h.1; omega
   ·have:=h.1; omega
  exact Qj hx.1 (Ajz f q).1
 ·split
  ·exact Z5 hx.1 ht
  ·exact Qj (by omega) (.inl rfl)
theorem Acs {p:Al→Prop} (one:Al→Al × Int) (f:Int) {A:Al} (hA:EA A) (kA:∀ c ∈ A.cells,Cz p c) (ht:∀ x,Cz p x→arrOK (one (CD x)).1):arrOK (V4 one f A).1:=by
 unfold V4
 repeat' split
 all_goals try exact Ct
 have:=hA.cells
 have:=hA.len
 refine DB hA.1 (by omega) (by rw [List.length_map]; omega) (fun c hc => ?_) (Eg (BG hA.2.1));obtain ⟨x,hx,rfl⟩:=List.mem_map.1 hc;exact Ale one f (kA x hx) (ht x (kA x hx))
theorem Acu (f:Int):∀ (d:Nat) (A:Al),Gb d A→arrOK (Acl f d A).1
 | 0,A,hA=>Acs _ f hA.1 hA.2 fun _ _=>Ct
 | d+1,A,hA=>Acs _ f hA.1 hA.2 fun x hx=>Acu f d _ (Ji hx)
theorem X2 (f:Int) {d:Nat} {A:Al} (tA:Gb d A) (rA:Cl 8 A=true):arrOK (Aco f d A).1:=by
 have kA:=tA.j;have oA:=tA.arrOK;have uA:=tA.u;have hs:=kA.ok.parts.1;have ht:=Bg A kA.ok;have h6:=kA.len;have hc:=kA.cells;have hsm:=kA.small
 have num:∀ {z:Int} {s:Nat},s<18446744073709551616→z.natAbs<2 ^ 64→arrOK (LH z s):=fun {z s} hs hz =>
  DB (C6 _ _ (by omega) hs) (by simp) (by simp) (fun c hc=>by simp only [List.mem_cons,List.not_mem_nil,or_false] at hc; rw [hc]; exact FV hz) Mc
 have vec:∀ {L:List Ah} {s:Nat},s<18446744073709551616→L.length≤100000→(∀ c ∈ L,cellOK c)→arrOK (FQ (.mk 0 [(L.length:Int)] L) s):=fun {L s} hs hl hL =>
  Md (DB (by omega) (by simp) (by omega) hL (Mb (by omega))) hs
 have hrev:∀ first,arrOK (Om A first):=fun first=>by
  obtain ⟨a1,a2,a3,a4⟩:=ZH kA first
  exact Adt oA (by rw [a1]; exact hs) a2 a3 a4
 have hsha:arrOK (AgA A):=DB hs (by simp) (by rw [List.length_map]; omega) (fun c hc=>by
  obtain ⟨z,hz,rfl⟩:=List.mem_map.1 hc
  have:=hsm z hz
  exact FV (by omega)) (Mb (by omega))
 have hrav:arrOK (Ajq A):=DB hs (by simp) (by omega) uA (Mb (by omega))
 have henc:arrOK (VW A).1:=by
  unfold VW
  repeat' split
  ·exact oA
  ·exact Ct
  ·refine DB hs (by simp) (by simp) (fun c hc => ?_) Mc
   simp only [List.mem_cons,List.not_mem_nil,or_false] at hc;rw [hc];refine Z5 ?_ oA;unfold Qk;split
   ·exact (Ig uA 0).parts.1
   ·omega
 have hfir:arrOK (Z7 A):=by
  unfold Z7;refine Md (Ae9 ?_) hs;split
  ·exact Ig uA 0
  ·exact Qi uA
 have hdep:arrOK (AgB A):=num ht (by have:=JQ 8 A rA; omega)
 have htal:arrOK (Z6 A):=num hs (by
  cases h:A.shape with
  | nil=>decide
  | cons z zs=>have:=hsm z (by rw [h]; simp); show z.natAbs<_; omega)
 have hiot:arrOK (WT A).1:=by
  unfold WT
  repeat' split
  all_goals try exact Ct
  refine vec ht (by unfold Qn; rw [List.length_map,List.length_range]; omega) fun c hc => ?_;obtain ⟨i,hi,rfl⟩:=List.mem_map.1 hc
  have:=List.mem_range.1 hi
  exact FV (by omega)
 have henl:arrOK (WS A).1:=by
  unfold WS;split
  ·exact Ct
  ·exact DB ht (by simp) (by omega) (Afo oA) (Mb (by omega))
 have huni:arrOK (WV A).1:=by
  unfold WV;split
  ·exact Ct
  ·refine vec ht (by have:=V3 A.cells A.cells.length; omega) fun c hc => ?_
   obtain ⟨i,_,rfl⟩:=List.mem_map.1 hc;exact Ig uA i
 have hwhr:arrOK (WU A).1:=by
  have hle:=G4 hc;unfold WU
  repeat' split
  all_goals try exact Ct
  refine vec ht (by have:=V2 (AB A).1 (AB A).1.length; omega) fun c hc => ?_;obtain ⟨i,hi,rfl⟩:=List.mem_map.1 hc
  have:=List.mem_range.1 (List.mem_filter.1 hi).1
  exact FV (by omega)
 have hgra:∀ down,arrOK (Qp A down).1:=fun down=>by
  unfold Qp;split
  ·exact Ct
  ·refine vec ht (by unfold Qo; rw [List.length_map,Acn]; omega) fun c hc => ?_
   obtain ⟨z,hz,rfl⟩:=List.mem_map.1 hc
   have:=Afk A down z hz
   unfold inA at this;exact FV (by omega)
 unfold Aco;refine AM (hsha) ?_;refine AM (hrav) ?_;refine AM (Age kA oA) ?_;refine AM (hrev false) ?_;refine AM (hrev true) ?_;refine AM (Agi kA oA) ?_;refine AM (henc) ?_;refine AM (hfir) ?_;refine AM (hdep) ?_;refine AM (htal) ?_;refine AM (oA) ?_;refine AM (oA) ?_;refine AM (hiot) ?_;refine AM (henl) ?_;refine AM (huni) ?_;refine AM (hwhr) ?_;refine AM (hgra false) ?_;refine AM (hgra true) ?_;exact Acu f d A tA
end Go.Proofs.YtjcolpcfcdkckaaGreat
