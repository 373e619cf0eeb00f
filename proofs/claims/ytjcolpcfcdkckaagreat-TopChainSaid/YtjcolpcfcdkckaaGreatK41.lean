/- Every function of two arrays, in plain words; labels raised stay raised; what is told is as arrays are. -/
import Derived.Test.YtjcolpcfcdkckaaGreatK35
import Derived.Test.YtjcolpcfcdkckaaGreatK36
import Derived.Test.YtjcolpcfcdkckaaGreatK37
import Derived.Test.YtjcolpcfcdkckaaGreatK39
import Derived.Test.YtjcolpcfcdkckaaGreatK40
set_option maxRecDepth 10000
set_option maxHeartbeats 4000000
namespace Go.Proofs.YtjcolpcfcdkckaaGreat
set_option linter.unusedVariables false
open Go.RowKit
def inP (A B:Al):Al × Int :=
 if (AB A).2≠0 then (zA,(AB A).2) else
 if (AB A).1.length≠1 then (zA,4) else
 if B.shape.length≠1 then (zA,5) else
 if (AB A).1.headD 0<1∨(AB A).1.headD 0 > B.cells.length then (zA,6) else
 (FQ (HC (B.cells.getD ((AB A).1.headD 0 - 1).toNat AS)) (B.s ||| A8 A),0)
noncomputable def Kh (f:Int) (d:Nat) (A B:Al):Al × Int :=
 if f=8801 then (VJ A B true,0) else if f=8802 then (VJ A B false,0) else if f=9075 then II A B else if f=8714 then (GU A B,0) else
 if f=8746 then IH A B else if f=8745 then FR A B true else if f=126 then FR A B false else if f=47 then Qg A B false else
 if f=9023 then Qg A B true else if f=92 then Qh A B false else if f=9024 then Qh A B true else VQ f d A B
noncomputable def J2 (f:Int) (d:Nat) (A B:Al):Al × Int :=
 if f=9076 then VS A B else if f=44 then Ey A B false else if f=9066 then Ey A B true else if f=9021 then IG A B false else if f=8854 then IG A B true else
 if f=9033 then LB A B else if f=8593 then MY Ry Qd A B else if f=8595 then MY SX Qe A B else if f=8835 then inP A B else
 if f=8866 then (B,0) else if f=8867 then (A,0) else Kh f d A B
mutual
theorem LJ (o:Nat):∀ A:Al,AJ o A A=true
 | .mk s sh cs=>by rw [AJ]; split<;>simp [B5,RE o cs]
theorem RE (o:Nat):∀ cs:List Ah,Ay o cs cs=true
 | []=>by rw [Ay]
 | c::cs=>by rw [Ay,HE o c,RE o cs]; rfl
theorem HE (o:Nat):∀ c:Ah,BN o c c=true
 | .mk a k n c ins=>by rw [BN]; split<;>simp [(I1 n n).2 rfl,XV o ins]
theorem XV (o:Nat):∀ us:List Al,Bq o us us=true
 | []=>by rw [Bq]
 | a::us=>by rw [Bq,LJ o a,XV o us]; rfl
end
theorem D6 {o:Nat} {c d:Ah} (h:BN o c d=true):(Aw c.l o=false∧Aw d.l o=false)∨(Aw c.l o=true∧Aw d.l o=true∧c.l=d.l∧c.kind=d.kind∧c.n=d.n∧c.c=d.c∧Bq o c.ins d.ins=true):=by
 rw [L0] at h;split at h
 ·rename_i hv
  simp only [Bool.and_eq_true,beq_iff_eq] at h;exact .inr ⟨hv.1,hv.2,h.1,h.2.1,(I1 _ _).1 h.2.2.2.1,h.2.2.1,h.2.2.2.2⟩
 ·rename_i hv
  rw [beq_iff_eq] at h;left;cases h1:Aw c.l o<;>cases h2:Aw d.l o<;>simp_all
theorem Ie {o:Nat} {c d:Ah} (h1:c.l=d.l) (h2:c.kind=d.kind) (h3:c.n=d.n) (h4:c.c=d.c) (h5:Bq o c.ins d.ins=true):BN o c d=true:=by
 rw [L0,h1,h2,h3,h4,h5];split
 ·simp [(I1 d.n d.n).2 rfl]
 ·simp
theorem RF (o:Nat):Ay o [] []=true:=by simp [Ay]
theorem RH {o:Nat} {c d:Ah} (h:BN o c d=true):Ay o [c] [d]=true:=by rw [Ay,h,RF]; rfl
theorem ZX {o:Nat} {A B:Al} (h:AJ o A B=true):Bq o [A] [B]=true:=by rw [Bq,h]; simp [Bq]
theorem RI {o:Nat} {cs ds:List Ah} (h:Ay o cs ds=true) (i:Nat):BN o (cs.getD i AS) (ds.getD i AS)=true:=((Dq o).1 h).2 i
theorem Ow {o:Nat} {cs ds:List Ah} (h:Ay o cs ds=true):cs.length=ds.length:=((Dq o).1 h).1
theorem ZY {o:Nat} {α:Type} (f g:α→Ah):∀ (xs:List α),(∀ x ∈ xs,BN o (f x) (g x)=true)→Ay o (xs.map f) (xs.map g)=true
 | [],_=>RF o
 | x::xs,h=>by rw [List.map_cons,List.map_cons,Ay,h x (List.mem_cons_self ..),ZY f g xs fun y hy=>h y (List.mem_cons_of_mem _ hy)]; rfl
theorem Ajc {o:Nat}:∀ {us vs cs ds:List Ah},Ay o us vs=true→Ay o cs ds=true→Ay o (us++cs) (vs++ds)=true
 | [],[],_,_,_,h=>h
 | a::us,b::vs,_,_,h,g=>by rw [Ay,Bool.and_eq_true] at h; rw [List.cons_append,List.cons_append,Ay,h.1,Ajc h.2 g]; rfl
 | [],_::_,_,_,h,_=>by simp [Ay] at h
 | _::_,[],_,_,h,_=>by simp [Ay] at h
theorem AeZ {o:Nat}:∀ {cs ds:List Ah} (n:Nat),Ay o cs ds=true→Ay o (cs.take n) (ds.take n)=true
 | [],[],_,h=>by simpa using h
 | c::cs,d::ds,0,h=>RF o
 | c::cs,d::ds,n+1,h=>by rw [Ay,Bool.and_eq_true] at h; rw [List.take_succ_cons,List.take_succ_cons,Ay,h.1,AeZ n h.2]; rfl
 | [],_::_,_,h=>by simp [Ay] at h
 | _::_,[],_,h=>by simp [Ay] at h
theorem Ae0 {o:Nat}:∀ {cs ds:List Ah} (n:Nat),Ay o cs ds=true→Ay o (cs.drop n) (ds.drop n)=true
 | [],[],_,h=>by simpa using h
 | c::cs,d::ds,0,h=>h
 | c::cs,d::ds,n+1,h=>by rw [Ay,Bool.and_eq_true] at h; exact Ae0 n h.2
 | [],_::_,_,h=>by simp [Ay] at h
 | _::_,[],_,h=>by simp [Ay] at h
theorem Ajd {o:Nat} {c d:Ah} (h:BN o c d=true):∀ n:Nat,Ay o (List.replicate n c) (List.replicate n d)=true
 | 0=>RF o
 | n+1=>by rw [List.replicate_succ,List.replicate_succ,Ay,h,Ajd h n]; rfl
theorem ZZ {o:Nat} {α:Type} (f g:α→List Ah) (h:∀ x,Ay o (f x) (g x)=true):∀ xs:List α,Ay o (xs.flatMap f) (xs.flatMap g)=true
 | []=>RF o
 | x::xs=>by rw [List.flatMap_cons,List.flatMap_cons]; exact Ajc (h x) (ZZ f g h xs)
theorem Z0 {o:Nat} {A B:Al} (h:Ay o A.cells B.cells=true):BN o (Gc A) (Gc B)=true:=by
 unfold Gc;cases hA:A.cells with
 | nil =>
   cases hB:B.cells with
   | nil=>exact HE ..
   | cons d ds=>rw [hA,hB] at h; simp [Ay] at h
 | cons c cs =>
   cases hB:B.cells with
   | nil=>rw [hA,hB] at h; simp [Ay] at h
   | cons d ds =>
     rw [hA,hB,Ay,Bool.and_eq_true] at h;rcases D6 h.1 with ⟨h1,h2⟩|⟨_,_,h1,h2,_⟩
     ·dsimp only
      exact EN (by split<;>exact h1) (by split<;>exact h2)
     ·dsimp only
      rw [h1,h2];exact HE ..
theorem AdB {o:Nat} {A B:Al} (h:AJ o A B=true) {m n:Nat} (g:m=n∨(Aw m o=false∧Aw n o=false)):AJ o (FQ A m) (FQ B n)=true:=by
 unfold FQ;rcases g with rfl|⟨g1,g2⟩
 ·rcases Cm h with ⟨a1,a2⟩|⟨a1,a2,a3,a4,a5⟩
  ·exact Bs (by show Aw (_ ||| _) o=_; rw [AO,a1]; rfl) (by show Aw (_ ||| _) o=_; rw [AO,a2]; rfl)
  ·exact BF (by show _ ||| _=_ ||| _; rw [a3]) a4 a5
 ·exact Bs (by show Aw (_ ||| _) o=_; rw [AO,g1,Bool.and_false]) (by show Aw (_ ||| _) o=_; rw [AO,g2,Bool.and_false])
theorem AdC {o:Nat}:∀ {us vs:List Al},Bq o us vs=true→us.length=vs.length∧AJ o (us.headD zA) (vs.headD zA)=true
 | [],[],_=>⟨rfl,LJ ..⟩
 | u::us,v::vs,h=>by rw [Bq,Bool.and_eq_true] at h; exact ⟨by simp [(AdC h.2).1],h.1⟩
 | [],_::_,h=>by simp [Bq] at h
 | _::_,[],h=>by simp [Bq] at h
theorem Aje (o:Nat) (c:Ah) (h:Aw c.l o=false):Aw (HC c).s o=false:=by
 unfold HC; split<;>(show Aw (_ ||| _) o=_; rw [AO,h,Bool.and_false])
theorem Ajf {o:Nat} {c d:Ah} (h:BN o c d=true):AJ o (HC c) (HC d)=true:=by
 have h0:=h;rcases D6 h with ⟨h1,h2⟩|⟨_,_,h1,h2,h3,h4,h5⟩
 ·exact Bs (Aje o c h1) (Aje o d h2)
 ·obtain ⟨i1,i2⟩:=AdC h5
  unfold HC;rw [h1,h2,i1];split
  ·exact AdB i2 (.inl rfl)
  ·exact BF rfl rfl (RH h0)
def RJ (o:Nat) (p q:Al × Int):Prop:=p.2=0→q.2=0→AJ o p.1 q.1=true
theorem Z1 {o:Nat} (ho:o<18446744073709551616) {N N' A A':Al} (kN:okA N) (kN':okA N') (hN:AJ o N N'=true) (hA:AJ o A A'=true) (F:Al→Al→Al × Int)
 (hl:∀ N A,(F N A).2=0→(F N A).1.s=A.s ||| A8 N)
 (hs:A.s=A'.s→A.shape=A'.shape→Ay o A.cells A'.cells=true→(F N A).2=0→(F N A').2=0→(F N A).1.shape=(F N A').1.shape∧Ay o (F N A).1.cells (F N A').1.cells=true) :
 RJ o (F N A) (F N' A'):=fun e1 e2=>by
 have l1:=hl N A e1;have l2:=hl N' A' e2;rcases Cm hA with ⟨a1,a2⟩|⟨a1,a2,a3,a4,a5⟩
 ·exact Bs (by rw [l1,AO,a1]; rfl) (by rw [l2,AO,a2]; rfl)
 ·rcases JX ho kN kN' hN with rfl|⟨n1,n2⟩
  ·obtain ⟨g1,g2⟩:=hs a3 a4 a5 e1 e2
   exact BF (by rw [l1,l2,a3]) g1 g2
  ·exact Bs (by rw [l1,AO,n1,Bool.and_false]) (by rw [l2,AO,n2,Bool.and_false])
theorem VT {o:Nat} (ho:o<18446744073709551616) {A A' B B':Al} (kA:okA A) (kA':okA A') (kB:okA B) (kB':okA B') (hA:AJ o A A'=true) (hB:AJ o B B'=true) (F:Al→Al→Al × Int)
 (hl:∀ A B,(F A B).2=0→Aw (F A B).1.s o=(Aw (A8 A) o && Aw (A8 B) o)):RJ o (F A B) (F A' B'):=fun e1 e2=>by
 have l1:=hl A B e1;have l2:=hl A' B' e2;rcases JX ho kA kA' hA with rfl|⟨n1,n2⟩
 ·rcases JX ho kB kB' hB with rfl|⟨n1,n2⟩
  ·exact LJ ..
  ·exact Bs (by rw [l1,n1,Bool.and_false]) (by rw [l2,n2,Bool.and_false])
 ·exact Bs (by rw [l1,n1]; rfl) (by rw [l2,n2]; rfl)
structure Al2 (o:Nat) (N N' A A':Al):Prop where
 ho:o<18446744073709551616
 kN:okA N
 kN':okA N'
 kA:okA A
 kA':okA A'
 hN:AJ o N N'=true
 hA:AJ o A A'=true
section
variable {o:Nat} {N N' A A':Al}
theorem Amx (m:Al2 o N N' A A'):RJ o (VS N A) (VS N' A'):=by
 refine Z1 m.ho m.kN m.kN' m.hN m.hA _ (fun N A e => ?_) fun a3 a4 a5 e1 e2 => ?_
 ·unfold VS at e ⊢
  split at e
  ·rename_i h; exact absurd e h
  rename_i h; rw [if_neg h];split at e
  ·rename_i h; exact absurd e h
  rename_i h; rw [if_neg h]; rfl
 ·unfold VS at e1 ⊢
  split at e1
  ·rename_i h; exact absurd e1 h
  rename_i h; rw [if_neg h,if_neg h];split at e1
  ·rename_i h; exact absurd e1 h
  rename_i h; rw [if_neg h,if_neg h];refine ⟨rfl,?_⟩
  have hf:Ay o (B7 A) (B7 A')=true:=by
   unfold B7;rw [Ow a5];split
   ·exact RH (Z0 a5)
   ·exact a5
  show Ay o (VR A _) (VR A' _)=true;unfold VR;rw [Ow hf];exact ZY _ _ _ fun i _=>RI hf _
theorem Ajg (m:Al2 o N N' A A') (f g:Int→Int→Int):RJ o (MY f g N A) (MY f g N' A'):=by
 refine Z1 m.ho m.kN m.kN' m.hN m.hA _ (fun N A e => ?_) fun a3 a4 a5 e1 e2 => ?_
 ·unfold MY at e ⊢
  split at e
  ·rename_i h; exact absurd e h
  rename_i h; rw [if_neg h];split at e
  ·rename_i h; exact absurd e h
  rename_i h; rw [if_neg h]; rfl
 ·have hx:Jq N A=Jq N A':=by unfold Jq; rw [a4]
  unfold MY at e1 ⊢;rw [hx] at e1 ⊢;split at e1
  ·rename_i h; exact absurd e1 h
  rename_i h; rw [if_neg h,if_neg h];split at e1
  ·rename_i h; exact absurd e1 h
  rename_i h; rw [if_neg h,if_neg h];refine ⟨rfl,?_⟩;show Ay o (EX _ _ _ A _) (EX _ _ _ A' _)=true;unfold EX;refine ZY _ _ _ fun i _ => ?_;unfold VK;split
  ·exact RI a5 _
  ·exact Z0 a5
theorem Z2 {s:List Int} {x:Nat} {F:List Int} (e:(Gf N A s x F).2=0):(Gf N A s x F).1.s=A.s ||| A8 N:=by
 unfold Gf at e ⊢;split at e
 ·rename_i h; exact absurd e h
 rename_i h; rw [if_neg h]; rfl
theorem VU {s:List Int} {x:Nat} {F:List Int} (a5:Ay o A.cells A'.cells=true) (e:(Gf N A s x F).2=0):(Gf N A s x F).1.shape=(Gf N A' s x F).1.shape∧Ay o (Gf N A s x F).1.cells (Gf N A' s x F).1.cells=true:=by
 unfold Gf at e ⊢;split at e
 ·rename_i h; exact absurd e h
 rename_i h; rw [if_neg h,if_neg h];refine ⟨rfl,?_⟩;show Ay o (Sa A _ _ _ F) (Sa A' _ _ _ F)=true;unfold Sa;refine ZZ _ _ (fun i => ?_) _;unfold GE;refine ZZ _ _ (fun k => ?_) _;unfold Eh;split
 ·exact Ajd (Z0 a5) _
 ·exact AeZ _ (Ae0 _ a5)
theorem Ae1 (m:Al2 o N N' A A') (first:Bool):RJ o (Qg N A first) (Qg N' A' first):=by
 refine Z1 m.ho m.kN m.kN' m.hN m.hA (fun N A=>Qg N A first) (fun N A e => ?_) fun a3 a4 a5 e1 e2 => ?_
 ·unfold Qg at e ⊢
  split at e
  ·rename_i h; exact absurd e h
  rename_i h; rw [if_neg h];split at e
  ·simp at e
  rename_i h; rw [if_neg h];split at e
  ·simp at e
  rename_i h; rw [if_neg h];split at e
  ·simp at e
  ·exact Z2 e
 ·have e1':EB A=EB A':=by unfold EB; rw [a4]
  have e2':Fr A first=Fr A' first:=by unfold Fr; rw [a4]
  have e3:Ai7 N A first=Ai7 N A' first:=by unfold Ai7; rw [e1',e2']
  unfold Qg at e1 ⊢;rw [e3,e1',e2'] at e1;rw [e3,e1',e2'];split at e1
  ·rename_i h; exact absurd e1 h
  rename_i h; rw [if_neg h,if_neg h];split at e1
  ·simp at e1
  rename_i h; rw [if_neg h,if_neg h];split at e1
  ·simp at e1
  rename_i h; rw [if_neg h,if_neg h];split at e1
  ·simp at e1
  ·exact VU a5 e1
theorem Ae2 (m:Al2 o N N' A A') (first:Bool):RJ o (Qh N A first) (Qh N' A' first):=by
 refine Z1 m.ho m.kN m.kN' m.hN m.hA (fun N A=>Qh N A first) (fun N A e => ?_) fun a3 a4 a5 e1 e2 => ?_
 ·unfold Qh at e ⊢
  split at e
  ·rename_i h; exact absurd e h
  rename_i h; rw [if_neg h];split at e
  ·simp at e
  rename_i h; rw [if_neg h];split at e
  ·rename_i h; rw [if_pos h]; exact Z2 e
  rename_i h; rw [if_neg h];split at e
  ·simp at e
  rename_i h; rw [if_neg h]; exact Z2 e
 ·have e1':EB A=EB A':=by unfold EB; rw [a4]
  have e2':Fr A first=Fr A' first:=by unfold Fr; rw [a4]
  unfold Qh at e1 ⊢;rw [e1',e2'] at e1;rw [e1',e2'];split at e1
  ·rename_i h; exact absurd e1 h
  rename_i h; rw [if_neg h,if_neg h];split at e1
  ·simp at e1
  rename_i h; rw [if_neg h,if_neg h];split at e1
  ·rename_i h; rw [if_pos h,if_pos h]; exact VU a5 e1
  rename_i h; rw [if_neg h,if_neg h];split at e1
  ·simp at e1
  rename_i h; rw [if_neg h,if_neg h]; exact VU a5 e1
theorem Amy (m:Al2 o N N' A A'):RJ o (inP N A) (inP N' A'):=fun e1 e2=>by
 unfold inP at e1 e2 ⊢;split at e1
 ·rename_i h; exact absurd e1 h
 split at e1
 ·simp at e1
 split at e1
 ·simp at e1
 split at e1
 ·simp at e1
 rename_i h1 h2 h3 h4;split at e2
 ·rename_i h; exact absurd e2 h
 split at e2
 ·simp at e2
 split at e2
 ·simp at e2
 split at e2
 ·simp at e2
 rename_i g1 g2 g3 g4;rw [if_neg h1,if_neg h2,if_neg h3,if_neg h4,if_neg g1,if_neg g2,if_neg g3,if_neg g4]
 have hid:∀ {A N:Al} {X:Al},Aw A.s o=false∨Aw (A8 N) o=false→Aw (FQ X (A.s ||| A8 N)).s o=false:=fun {A N X} h=>by
  show Aw (X.s ||| (A.s ||| A8 N)) o=false;rw [AO,AO];rcases h with h|h<;>rw [h]<;>simp
 rcases Cm m.hA with ⟨a1,a2⟩|⟨a1,a2,a3,a4,a5⟩
 ·exact Bs (hid (.inl a1)) (hid (.inl a2))
 ·rcases JX m.ho m.kN m.kN' m.hN with rfl|⟨n1,n2⟩
  ·exact AdB (Ajf (RI a5 _)) (.inl (by rw [a3]))
  ·exact Bs (hid (.inr n1)) (hid (.inr n2))
theorem Ajh (m:Al2 o N N' A A') (same:Bool):RJ o (VJ N A same,0) (VJ N' A' same,0) :=
 VT m.ho m.kN m.kN' m.kA m.kA' m.hN m.hA (fun N A=>(VJ N A same,0)) fun N A e=>by
  show Aw (0 ||| (A8 N ||| A8 A)) o=_;rw [Nat.zero_or,AO]
theorem Aji (m:Al2 o N N' A A'):RJ o (II N A) (II N' A') :=
 VT m.ho m.kN m.kN' m.kA m.kA' m.hN m.hA _ fun N A e=>by
  unfold II at e ⊢;split at e
  ·simp at e
  rename_i h; rw [if_neg h,← AO]; rfl
theorem Agw (m:Al2 o N N' A A'):RJ o (GU N A,0) (GU N' A',0) :=
 VT m.ho m.kN m.kN' m.kA m.kA' m.hN m.hA (fun N A=>(GU N A,0)) fun N A e=>by rw [← AO]; rfl
theorem Ace (m:Al2 o N N' A A') (inn:Bool):RJ o (FR N A inn) (FR N' A' inn) :=
 VT m.ho m.kN m.kN' m.kA m.kA' m.hN m.hA (fun N A=>FR N A inn) fun N A e=>by
  unfold FR at e ⊢;split at e
  ·simp at e
  rename_i h; rw [if_neg h,← AO];show Aw (0 ||| _) o=_;rw [Nat.zero_or]
theorem Ajj (m:Al2 o N N' A A'):RJ o (IH N A) (IH N' A') :=
 VT m.ho m.kN m.kN' m.kA m.kA' m.hN m.hA _ fun N A e=>by
  unfold IH at e ⊢;split at e
  ·simp at e
  rename_i h; rw [if_neg h];split at e
  ·simp at e
  rename_i h; rw [if_neg h,← AO];show Aw (0 ||| _) o=_;rw [Nat.zero_or]
end
theorem LK:∀ {l:List Int},IJ l=0→∀ e ∈ l,e=0
 | [],_,e,h=>by simp at h
 | a::l,h,e,he=>by
   rw [IJ] at h;split at h
   ·rename_i g; exact absurd h g
   ·rename_i g
    rcases List.mem_cons.1 he with rfl|he
    ·exact Classical.not_not.1 g
    ·exact LK h e he
theorem Z3 {o:Nat} {c d:Ah} (h2:c.kind=d.kind) (h3:c.n=d.n) (h4:c.c=d.c) (h5:Bq o c.ins d.ins=true):AJ o (CD c) (CD d)=true:=by
 unfold CD;rw [h2];split
 ·exact (AdC h5).2
 ·exact BF rfl rfl (RH (Ie rfl rfl h3 h4 h5))
theorem Z4 (two:Al→Al→Al × Int) (f:Int) (x y:Ah):(EZ two f x y).1.l=x.l ||| y.l:=by
 unfold EZ; split
 ·rfl
 ·split
  ·rfl
  ·split<;>rfl
theorem AkY {o:Nat} (two:Al→Al→Al × Int) (ht:∀ A A' B B',AJ o A A'=true→AJ o B B'=true→RJ o (two A B) (two A' B')) (f:Int) {x x' y y':Ah} (hx:BN o x x'=true) (hy:BN o y y'=true)
 (e1:(EZ two f x y).2=0) (e2:(EZ two f x' y').2=0):BN o (EZ two f x y).1 (EZ two f x' y').1=true:=by
 rcases D6 hx with ⟨a1,a2⟩|⟨_,_,x1,x2,x3,x4,x5⟩
 ·exact EN (by rw [Z4,AO,a1]; rfl) (by rw [Z4,AO,a2]; rfl)
 rcases D6 hy with ⟨a1,a2⟩|⟨_,_,y1,y2,y3,y4,y5⟩
 ·exact EN (by rw [Z4,AO,a1,Bool.and_false]) (by rw [Z4,AO,a2,Bool.and_false])
 have h:=ht _ _ _ _ (Z3 x2 x3 x4 x5) (Z3 y2 y3 y4 y5);unfold EZ at e1 e2 ⊢;rw [x2,x3,x4,y2,y3,y4] at e1 ⊢;rw [x1,y1];split
 ·rename_i g
  rw [if_pos g] at e1 e2;exact Ie rfl rfl rfl rfl (ZX (h e1 e2))
 ·split
  ·exact HE ..
  ·split<;>exact HE ..
theorem Ae3 {o:Nat} (two:Al→Al→Al × Int) (ht:∀ A A' B B',AJ o A A'=true→AJ o B B'=true→RJ o (two A B) (two A' B')) (f:Int) {A A' B B':Al} (hA:AJ o A A'=true) (hB:AJ o B B'=true) :
 RJ o (SY two f A B) (SY two f A' B'):=fun e1 e2=>by
 unfold SY at e1 e2 ⊢;split at e1
 ·simp at e1
 rename_i h0;rw [if_neg h0] at e2;rw [if_neg h0,if_neg h0];split at e1
 ·rename_i h; exact absurd e1 h
 rename_i h1;split at e1
 ·rename_i h; exact absurd e1 h
 rename_i h2;split at e2
 ·rename_i h; exact absurd e2 h
 rename_i g1;split at e2
 ·rename_i h; exact absurd e2 h
 rename_i g2;rw [if_neg h1,if_neg h2,if_neg g1,if_neg g2];rcases Cm hA with ⟨a1,a2⟩|⟨a1,a2,a3,a4,a5⟩
 ·exact Bs (by show Aw (_ ||| _) o=_; rw [AO,a1]; rfl) (by show Aw (_ ||| _) o=_; rw [AO,a2]; rfl)
 rcases Cm hB with ⟨b1,b2⟩|⟨b1,b2,b3,b4,b5⟩
 ·exact Bs (by show Aw (_ ||| _) o=_; rw [AO,b1,Bool.and_false]) (by show Aw (_ ||| _) o=_; rw [AO,b2,Bool.and_false])
 have hcn:IK A B=IK A' B':=by unfold IK; rw [a4,Ow a5,Ow b5]
 have hp:∀ {X X':Al},X.shape=X'.shape→Ay o X.cells X'.cells=true→∀ i,BN o (Db X i) (Db X' i)=true:=fun {X X'} h g i=>by
  unfold Db; rw [h]; exact RI g _
 refine BF (by show _ ||| _=_ ||| _; rw [a3,b3]) (by show (LG _ _).1=(LG _ _).1; rw [a4,b4]) ?_;show Ay o (List.map _ _) (List.map _ _)=true;rw [hcn] at h2 ⊢;refine ZY _ _ _ fun i hi=>AkY two ht f (hp a4 a5 i) (hp b4 b5 i) ?_ ?_
 ·exact LK (Classical.not_not.1 h2) _ (List.mem_map.2 ⟨i,hi,rfl⟩)
 ·exact LK (Classical.not_not.1 g2) _ (List.mem_map.2 ⟨i,hi,rfl⟩)
theorem Ae4 {o:Nat} (f:Int):∀ (d:Nat) (A A' B B':Al),AJ o A A'=true→AJ o B B'=true→RJ o (VQ f d A B) (VQ f d A' B')
 | 0,A,A',B,B',hA,hB=>Ae3 _ (fun _ _ _ _ _ _ e _=>by simp at e) f hA hB
 | d+1,A,A',B,B',hA,hB=>Ae3 _ (fun A A' B B' hA hB=>Ae4 f d A A' B B' hA hB) f hA hB
theorem Ajk {o:Nat} (ho:o<18446744073709551616) {A A' B B':Al} (kA:okA A) (kA':okA A') (kB:okA B) (kB':okA B') (hA:AJ o A A'=true) (hB:AJ o B B'=true) (f:Int) (d:Nat):RJ o (Kh f d A B) (Kh f d A' B'):=by
 have m:Al2 o A A' B B':=⟨ho,kA,kA',kB,kB',hA,hB⟩;unfold Kh;by_cases h8801:f=8801
 ·rw [if_pos h8801,if_pos h8801]; exact Ajh m true
 rw [if_neg h8801,if_neg h8801];by_cases h8802:f=8802
 ·rw [if_pos h8802,if_pos h8802]; exact Ajh m false
 rw [if_neg h8802,if_neg h8802];by_cases h9075:f=9075
 ·rw [if_pos h9075,if_pos h9075]; exact Aji m
 rw [if_neg h9075,if_neg h9075];by_cases h8714:f=8714
 ·rw [if_pos h8714,if_pos h8714]; exact Agw m
 rw [if_neg h8714,if_neg h8714];by_cases h8746:f=8746
 ·rw [if_pos h8746,if_pos h8746]; exact Ajj m
 rw [if_neg h8746,if_neg h8746];by_cases h8745:f=8745
 ·rw [if_pos h8745,if_pos h8745]; exact Ace m true
 rw [if_neg h8745,if_neg h8745];by_cases h126:f=126
 ·rw [if_pos h126,if_pos h126]; exact Ace m false
 rw [if_neg h126,if_neg h126];by_cases h47:f=47
 ·rw [if_pos h47,if_pos h47]; exact Ae1 m false
 rw [if_neg h47,if_neg h47];by_cases h9023:f=9023
 ·rw [if_pos h9023,if_pos h9023]; exact Ae1 m true
 rw [if_neg h9023,if_neg h9023];by_cases h92:f=92
 ·rw [if_pos h92,if_pos h92]; exact Ae2 m false
 rw [if_neg h92,if_neg h92];by_cases h9024:f=9024
 ·rw [if_pos h9024,if_pos h9024]; exact Ae2 m true
 rw [if_neg h9024,if_neg h9024];exact Ae4 f d A A' B B' hA hB
theorem Ae5 {o:Nat} (ho:o<18446744073709551616) {A A' B B':Al} (kA:okA A) (kA':okA A') (kB:okA B) (kB':okA B') (hA:AJ o A A'=true) (hB:AJ o B B'=true) (f:Int) (d:Nat):RJ o (J2 f d A B) (J2 f d A' B'):=by
 have m:Al2 o A A' B B':=⟨ho,kA,kA',kB,kB',hA,hB⟩;unfold J2;by_cases h9076:f=9076
 ·rw [if_pos h9076,if_pos h9076]; exact Amx m
 rw [if_neg h9076,if_neg h9076];by_cases h44:f=44
 ·rw [if_pos h44,if_pos h44]; exact fun e1 e2=>XE false hA hB e1 e2
 rw [if_neg h44,if_neg h44];by_cases h9066:f=9066
 ·rw [if_pos h9066,if_pos h9066]; exact fun e1 e2=>XE true hA hB e1 e2
 rw [if_neg h9066,if_neg h9066];by_cases h9021:f=9021
 ·rw [if_pos h9021,if_pos h9021]; exact fun e1 e2=>XL ho kA kA' false hA hB e1 e2
 rw [if_neg h9021,if_neg h9021];by_cases h8854:f=8854
 ·rw [if_pos h8854,if_pos h8854]; exact fun e1 e2=>XL ho kA kA' true hA hB e1 e2
 rw [if_neg h8854,if_neg h8854];by_cases h9033:f=9033
 ·rw [if_pos h9033,if_pos h9033]; exact fun e1 e2=>Agk ho kA kA' hA hB e1 e2
 rw [if_neg h9033,if_neg h9033];by_cases h8593:f=8593
 ·rw [if_pos h8593,if_pos h8593]; exact Ajg m _ _
 rw [if_neg h8593,if_neg h8593];by_cases h8595:f=8595
 ·rw [if_pos h8595,if_pos h8595]; exact Ajg m _ _
 rw [if_neg h8595,if_neg h8595];by_cases h8835:f=8835
 ·rw [if_pos h8835,if_pos h8835]; exact Amy m
 rw [if_neg h8835,if_neg h8835];by_cases h8866:f=8866
 ·rw [if_pos h8866,if_pos h8866]; exact fun _ _=>hB
 rw [if_neg h8866,if_neg h8866];by_cases h8867:f=8867
 ·rw [if_pos h8867,if_pos h8867]; exact fun _ _=>hA
 rw [if_neg h8867,if_neg h8867];exact Ajk ho kA kA' kB kB' hA hB f d
theorem Ajl {n:Fx} (h:QX n=true):JY n:=by
 unfold QX at h;split at h
 ·cases h
 rename_i hl;rw [Bool.and_eq_true] at h;obtain ⟨h1,h2⟩:=h;have h2:=(I1 _ _).1 h2;unfold Uo at h1 h2;by_cases hy:AF n.bot=0
 ·rw [if_pos hy] at h1; cases h1
 rw [if_neg hy] at h1 h2;dsimp only at h1 h2;generalize (dm (limbs (AF n.top)) (JI 100000 (AF n.top) (AF n.bot))).1=t at h1 h2;generalize hb:(dm (limbs (AF n.bot)) (JI 100000 (AF n.top) (AF n.bot))).1=b at h1 h2;split at h1
 ·cases h1
 rename_i hlen;rw [if_neg hlen] at h2;have hbot:n.bot=limbs b:=by rw [h2]
 have hbv:AF n.bot=b:=by rw [hbot,Aq]
 clear hb h1;generalize (Cu n.neg (AF n.top) != false)=s at h2;refine ⟨if decide (t≠0) && s then -(t:Int) else t,b,?_,fun e=>hy (by rw [hbv,e]),?_,?_⟩
 ·rw [h2]
  unfold qN;by_cases ht:t=0
  ·subst ht; simp
  ·cases s<;>(simp [ht]<;>omega)
 ·unfold Cx
  have:(if decide (t≠0) && s then -(t:Int) else t).natAbs=t:=by split<;>omega
  rw [this]; omega
 ·omega
theorem Ae6 {n:Fx} (h:M9 n=true):n=zN:=by
 obtain ⟨g,t,b⟩:=n;unfold M9 at h;simp at h;obtain ⟨h1,h2,h3⟩:=h;subst h1; subst h2; subst h3; rfl
theorem Ae7 {d:Nat} {p:Al→Prop} (hp:∀ a,okA a→∀ e,d=e+1→Cl e a=true→p a) {c:Ah} (hc:okC c) (h:Gq d c=true):Cz p c:=by
 obtain ⟨l,k,n,ch,ins⟩:=c;obtain ⟨a1,a2,a3,a4,a5⟩:=hc.parts;dsimp only [Ah.l,Ah.n,Ah.ins] at a1 a2 a3 a4 a5;unfold Gq at h;refine ⟨a1,?_⟩;dsimp only [Ah.kind,Ah.c,Ah.ins,Ah.n];split at h
 ·rename_i hk
  simp only [Bool.and_eq_true,beq_iff_eq] at h;exact .inl ⟨hk,h.1,List.eq_nil_of_length_eq_zero h.2.1,Ajl h.2.2⟩
 ·split at h
  ·rename_i hk
   simp only [Bool.and_eq_true,beq_iff_eq] at h;refine .inr (.inl ⟨hk,Ae6 h.1,List.eq_nil_of_length_eq_zero h.2.1,?_⟩);have hm:=h.2.2;unfold AhF at hm;simp only [Bool.and_eq_true,decide_eq_true_eq] at hm;exact wf_i64 (by omega) (by omega)
  ·simp only [Bool.and_eq_true,beq_iff_eq,decide_eq_true_eq] at h
   obtain ⟨h1,h2,h3,h4,h5,h6⟩:=h;refine .inr (.inr ⟨h1,Ae6 h2,h3,?_⟩);obtain ⟨a,rfl⟩:=List.length_eq_one_iff.1 h4;rw [Rf,Bool.and_eq_true] at h6;exact ⟨a,rfl,hp a (I3.1 a5 a (by simp)) (d - 1) (by omega) h6.2⟩
theorem Ajm:∀ (d:Nat) (A:Al),okA A→Cl d A=true→Gb d A
 | 0,A,hA,h=>by
   have hs:=EW h;have hc:∀ c ∈ A.cells,Gq 0 c=true:=by cases A; rw [Cl,Bool.and_eq_true,Bool.and_eq_true] at h; exact Dp.1 h.2.2
   exact ⟨⟨hA.parts.1,hs.1,hs.2.1⟩,fun c hcm=>Ae7 (fun a _ e he _=>by omega) (Es.1 hA.parts.2.2.2 c hcm) (hc c hcm)⟩
 | d+1,A,hA,h=>by
   have hs:=EW h;have hc:∀ c ∈ A.cells,Gq (d+1) c=true:=by cases A; rw [Cl,Bool.and_eq_true,Bool.and_eq_true] at h; exact Dp.1 h.2.2
   exact ⟨⟨hA.parts.1,hs.1,hs.2.1⟩,fun c hcm=>Ae7 (fun a ha e he hr=>Ajm d a ha (by rw [show d=e from by omega]; exact hr)) (Es.1 hA.parts.2.2.2 c hcm) (hc c hcm)⟩
theorem Acf {A:Al} (hA:arrOK A) (h:PJ A=true):Gb 8 A:=Ajm 8 A (AlS hA (AhV h)) (UZ h)
def shW (s:List Int):Prop:=∀ z ∈ s,-1000000000000≤z∧z≤1000000000000
theorem DB {s:Nat} {sh:List Int} {cs:List Ah} (h1:s<18446744073709551616) (h2:sh.length≤1000000) (h3:cs.length≤1000000) (h4:∀ c ∈ cs,cellOK c) (h5:shW sh):arrOK (.mk s sh cs):=by
 have hr:reachBytes=140737488351232:=rfl;simp only [arrOK];exact ⟨h1,fun z hz=>wf_i64 (by have:=h5 z hz; omega) (by have:=h5 z hz; omega),by omega,by omega,Bw.2 h4⟩
theorem Eg {s:List Int} (h:Small s):shW s:=fun z hz=>by have:=h z hz; omega
theorem Mb {n:Nat} (h:n≤1000000):shW [(n:Int)]:=fun z hz=>by simp at hz; omega
theorem Mc:shW []:=fun z hz=>by simp at hz
theorem Ct:arrOK zA:=DB (by omega) (by simp) (by simp) (by simp) Mc
theorem Anj:cellOK AS:=by
 simp only [AS,cellOK,FY,Dh,List.length_nil,List.not_mem_nil];exact ⟨by omega,by decide,⟨fun _ h=>h.elim,fun _ h=>h.elim,by decide,by decide⟩,by decide,by decide,trivial⟩
theorem FV {z:Int} (h:z.natAbs<2 ^ 64):cellOK (BV z):=Akw z h
theorem Ig {cs:List Ah} (h:∀ c ∈ cs,cellOK c) (i:Nat):cellOK (cs.getD i AS):=by
 rw [List.getD_eq_getElem?_getD];cases e:cs[i]? with
 | none=>exact Anj
 | some c=>exact h c (List.mem_of_getElem? e)
theorem Ae8 {cs:List Ah} (h:∀ c ∈ cs,okC c) (i:Nat):okC (cs.getD i AS):=by
 rw [List.getD_eq_getElem?_getD];cases e:cs[i]? with
 | none=>simp [okC,AS,Ky]
 | some c=>exact h c (List.mem_of_getElem? e)
theorem okA.cs {A:Al} (h:okA A):∀ c ∈ A.cells,okC c:=Es.1 h.parts.2.2.2
theorem Qi {A:Al} (h:∀ c ∈ A.cells,cellOK c):cellOK (Gc A):=by
 unfold Gc;cases e:A.cells with
 | nil=>exact FV (by decide)
 | cons c cs =>
   have hl:=(h c (by rw [e]; simp)).parts.1;have h0:=FV (z:=0) (by decide);unfold BV at h0;simp only [cellOK] at h0;dsimp only;split
   ·exact ⟨hl,by decide,⟨by simp [zN],by simp [zN],by simp [zN],by simp [zN]⟩,by decide,Nat.zero_le _,trivial⟩
   ·exact ⟨hl,h0.2⟩
theorem Md {A:Al} (h:arrOK A) {l:Nat} (hl:l<18446744073709551616):arrOK (FQ A l):=by
 obtain ⟨s,sh,cs⟩:=A;simp only [arrOK] at h;exact ⟨C6 _ _ h.1 hl,h.2⟩
theorem Ajn {c:Ah} (h:cellOK c):∀ a ∈ c.ins,arrOK a:=Du.1 h.parts.2.2.2
theorem Ae9 {c:Ah} (h:cellOK c):arrOK (HC c):=by
 unfold HC;split
 ·rename_i g
  obtain ⟨a,ha⟩:=List.length_eq_one_iff.1 g.2;rw [ha];exact Md (Ajn h a (by rw [ha]; simp)) h.parts.1
 ·exact DB (C6 _ _ (by omega) h.parts.1) (by simp) (by simp) (by intro d hd; simp at hd; subst hd; exact h) Mc
theorem Agx {cs:List Ah} (p:Nat→Nat) (h:∀ c ∈ cs,cellOK c):(CX cs p).length=cs.length∧∀ c ∈ CX cs p,cellOK c:=by
 unfold CX;refine ⟨by simp,fun c hc => ?_⟩;obtain ⟨i,_,rfl⟩:=List.mem_map.1 hc;exact Ig h _
theorem Ajo (A:Al) (first:Bool):Fr A first<(EB A).length:=by
 unfold Fr EB;by_cases h:A.shape.length=0
 ·rw [if_pos h,if_pos h]; simp
 ·rw [if_neg h,if_neg h]; split<;>omega
section
variable {N A:Al}
theorem AkZ (kN:CI N) (kA:CI A) (uA:∀ c ∈ A.cells,cellOK c):arrOK (VS N A).1:=by
 unfold VS;split
 ·exact Ct
 ·split
  ·exact Ct
  ·rename_i h1
   have h6:=CF (Classical.not_not.1 h1);have hle:=(E6 (AB N).1).2
   have hf:∀ c ∈ B7 A,cellOK c:=fun c hc=>by
    unfold B7 at hc;split at hc
    ·simp at hc; subst hc; exact Qi uA
    ·exact uA c hc
   refine DB (C6 _ _ kA.ok.parts.1 (Bg N kN.ok)) (by omega) (by simp [VR]; omega) (fun c hc => ?_) (Eg (BG (Classical.not_not.1 h1)));unfold VR at hc;obtain ⟨i,_,rfl⟩:=List.mem_map.1 hc;exact Ig hf _
theorem Afa (kN:CI N) (kA:CI A) (uA:∀ c ∈ A.cells,cellOK c) (f g:Int→Int→Int):arrOK (MY f g N A).1:=by
 unfold MY;split
 ·exact Ct
 ·split
  ·exact Ct
  ·rename_i h1
   have h6:=CF (Classical.not_not.1 h1);have hle:=(E6 (BW (List.zipWith f (Jq N A).1 (Jq N A).2.1) (Jq N A).2.1)).2;refine DB (C6 _ _ kA.ok.parts.1 (Bg N kN.ok)) (by omega) (by rw [XM]; omega) (fun c hc => ?_) (Eg (BG (Classical.not_not.1 h1)));unfold EX at hc;obtain ⟨i,_,rfl⟩:=List.mem_map.1 hc;unfold VK;split
   ·exact Ig uA _
   ·exact Qi uA
theorem Acg (kN:CI N) (kA:CI A) (uA:∀ c ∈ A.cells,cellOK c) {s:List Int} {x:Nat} (hx:x<s.length) (F:List Int):arrOK (Gf N A s x F).1:=by
 unfold Gf;split
 ·exact Ct
 ·rename_i h1
  have h1:=Classical.not_not.1 h1;have h6:=CF h1;have hle:=(E6 (s.set x (F.length:Int))).2;have hsm:=BG h1;have hpr:=E7 h1;have ht:(s.set x (F.length:Int))[x]? = some (F.length:Int):=by rw [List.getElem?_set_self hx]
  refine DB (C6 _ _ kA.ok.parts.1 (Bg N kN.ok)) (by omega) ?_ (fun c hc => ?_) (Eg hsm)
  ·generalize s.set x (F.length:Int)=t at *
   have s1:Small (t.take x):=fun z hz=>hsm z (List.mem_of_mem_take hz);have s2:Small (t.drop (x+1)):=fun z hz=>hsm z (List.mem_of_mem_drop hz);have p1:=Ma s1;have p2:=Ma s2;have n1:=Dx (t.take x) (fun z hz=>(s1 z hz).1);have n2:=Dx (t.drop (x+1)) (fun z hz=>(s2 z hz).1)
   have hsp:AA (t.take x) * (F.length:Int) * AA (t.drop (x+1))=AA t:=by
    conv=>rhs; rw [Hx ht,Cq,Cy]
    rw [Int.mul_assoc]
   have hb:=RB A (Bm (t.drop (x+1)) 1).toNat (s.getD x 0).toNat F (Bm (t.take x) 1).toNat
   have hbound:(Bm (t.take x) 1).toNat * (F.length * (Bm (t.drop (x+1)) 1).toNat)≤2048:=by
    have e1:((Bm (t.take x) 1).toNat:Int)≤AA (t.take x):=by omega
    have e2:((Bm (t.drop (x+1)) 1).toNat:Int)≤AA (t.drop (x+1)):=by omega
    generalize (Bm (t.take x) 1).toNat=u at *;generalize (Bm (t.drop (x+1)) 1).toNat=v at *;have h1:(u:Int) * (F.length:Int)≤AA (t.take x) * (F.length:Int):=Int.mul_le_mul_of_nonneg_right e1 (by omega)
    have h2:(u:Int) * (F.length:Int) * v≤AA (t.take x) * (F.length:Int) * AA (t.drop (x+1)) :=
     Int.le_trans (Int.mul_le_mul_of_nonneg_right h1 (by omega)) (Int.mul_le_mul_of_nonneg_left e2 (Int.mul_nonneg n1 (by omega)))
    rw [hsp] at h2;have h3:(u:Int) * (F.length:Int) * v≤2048:=by omega
    rw [← Nat.mul_assoc];rw [← Int.natCast_mul,← Int.natCast_mul] at h3;omega
   show (Sa A _ _ _ F).length≤_;unfold Sa;omega
  ·unfold Sa at hc
   obtain ⟨i,_,hc⟩:=List.mem_flatMap.1 hc;unfold GE at hc;obtain ⟨k,_,hc⟩:=List.mem_flatMap.1 hc;unfold Eh at hc;split at hc
   ·rw [(List.mem_replicate.1 hc).2]; exact Qi uA
   ·exact uA c (List.mem_of_mem_drop (List.mem_of_mem_take hc))
theorem Afb (kN:CI N) (kA:CI A) (uA:∀ c ∈ A.cells,cellOK c) (first:Bool):arrOK (IG N A first).1:=by
 unfold IG;split
 ·exact Ct
 ·split
  ·rename_i z _
   have h6:=kA.len;have hc:=kA.cells
   obtain ⟨m1,m2⟩:(KD A first z).length=A.cells.length∧∀ c ∈ KD A first z,cellOK c:=by
    unfold KD;split
    ·exact ⟨rfl,uA⟩
    ·exact Agx _ uA
   exact DB (C6 _ _ kA.ok.parts.1 (Bg N kN.ok)) (by omega) (by rw [m1]; omega) m2 (Eg kA.small)
  ·exact Ct
theorem Afc (kN:CI N) (kA:CI A) (uA:∀ c ∈ A.cells,cellOK c) (first:Bool):arrOK (Qg N A first).1:=by
 unfold Qg
 repeat' split
 all_goals first|exact Ct|exact Acg kN kA uA (Ajo A first) _
theorem Afd (kN:CI N) (kA:CI A) (uA:∀ c ∈ A.cells,cellOK c) (first:Bool):arrOK (Qh N A first).1:=by
 unfold Qh
 repeat' split
 all_goals first|exact Ct|exact Acg kN kA uA (Ajo A first) _
theorem Ak0 (kN:CI N) (kA:CI A) (uA:∀ c ∈ A.cells,cellOK c):arrOK (inP N A).1:=by
 unfold inP
 repeat' split
 all_goals first|exact Ct|exact Md (Ae9 (Ig uA _)) (C6 _ _ kA.ok.parts.1 (Bg N kN.ok))
theorem Afe (kN:CI N) (kA:CI A) (same:Bool):arrOK (VJ N A same):=by
 unfold VJ LH;refine DB (C6 _ _ (by omega) (C6 _ _ (Bg N kN.ok) (Bg A kA.ok))) (by simp) (by simp) (fun c hc => ?_) Mc;simp at hc; subst hc;split<;>exact FV (by decide)
theorem Agy (kN:CI N) (kA:CI A):arrOK (II N A).1:=by
 unfold II;split
 ·exact Ct
 ·have h6:=kA.len
  have hc:=kA.cells;have hn:=kN.cells;refine DB (C6 _ _ (Bg N kN.ok) (Bg A kA.ok)) (by omega) (by rw [List.length_map]; omega) (fun c hc => ?_) (Eg kA.small);obtain ⟨c0,_,rfl⟩:=List.mem_map.1 hc;unfold XR;have hr:=VN N.cells c0;exact FV (by split<;>omega)
theorem AdD (kN:CI N) (kA:CI A):arrOK (GU N A):=by
 unfold GU;have h6:=kN.len;have hc:=kN.cells;refine DB (C6 _ _ (Bg N kN.ok) (Bg A kA.ok)) (by omega) (by rw [List.length_map]; omega) (fun c hc => ?_) (Eg kN.small);obtain ⟨c0,_,rfl⟩:=List.mem_map.1 hc;unfold Ags;exact FV (by split<;>decide)
theorem XW (kN:CI N) (kA:CI A) (uN:∀ c ∈ N.cells,cellOK c) (inn:Bool):arrOK (FR N A inn).1:=by
 unfold FR;split
 ·exact Ct
 ·have hc:=kN.cells
  have hl:=J0 N.cells A.cells inn;exact Md (DB (cs:=CB N.cells A.cells inn) (by omega) (by simp) (by omega) (fun c hc=>uN c (List.mem_filter.1 hc).1) (Mb (by omega))) (C6 _ _ (Bg N kN.ok) (Bg A kA.ok))
theorem Agz (kN:CI N) (kA:CI A) (uN:∀ c ∈ N.cells,cellOK c) (uA:∀ c ∈ A.cells,cellOK c):arrOK (IH N A).1:=by
 unfold IH;split
 ·exact Ct
 ·split
  ·exact Ct
  ·rename_i h1 h2
   refine Md (DB (by omega) (by simp) (by rw [List.length_append]; omega) (fun c hc => ?_) (Mb (by rw [List.length_append]; omega))) (C6 _ _ (Bg N kN.ok) (Bg A kA.ok));rcases List.mem_append.1 hc with h|h
   ·exact uN c h
   ·exact uA c (List.mem_filter.1 h).1
end
theorem DH.okl {n:Fx} (h:DH n):FY n:=by
 rcases h with rfl|⟨z,q,rfl,_,h1,h2⟩
 ·exact ⟨by simp [zN],by simp [zN],by simp [zN],by simp [zN]⟩
 ·exact AiL z q h1 h2
theorem Qj {l:Nat} {n:Fx} (hl:l<18446744073709551616) (h:DH n):cellOK (.mk l 0 n 0 []):=by
 exact ⟨hl,by decide,h.okl,by decide,Nat.zero_le _,trivial⟩
theorem Z5 {l:Nat} {A:Al} (hl:l<18446744073709551616) (h:arrOK A):cellOK (.mk l 2 zN 0 [A]):=by
 exact ⟨hl,by decide,DH.okl (.inl rfl),by decide,by simp [reachBytes],h,trivial⟩
theorem Ak1 {p:Al→Prop} (two:Al→Al→Al × Int) (f:Int) {x y:Ah} (hx:Cz p x) (hy:Cz p y) (ht:arrOK (two (CD x) (CD y)).1):cellOK (EZ two f x y).1:=by
 have hl:=C6 _ _ hx.1 hy.1;unfold EZ;split
 ·exact Z5 hl ht
 ·rename_i h2
  split
  ·rename_i h0
   have qx:JY x.n:=by
    rcases hx.2 with h|h|h
    ·exact h.2.2.2
    ·have:=h.1; omega
    ·have:=h.1; omega
   have qy:JY y.n:=by
    rcases hy.2 with h|h|h
    ·exact h.2.2.2
    ·have:=h.1; omega
    ·have:=h.1; omega
   exact Qj hl (AeS f qx qy).1
  ·split
   ·exact Qj hl (FO _)
   ·exact Qj hl (.inl rfl)
theorem VV {p:Al→Prop} (two:Al→Al→Al × Int) (f:Int) {A B:Al} (hA:EA A) (hB:EA B) (kA:∀ c ∈ A.cells,Cz p c) (kB:∀ c ∈ B.cells,Cz p c)
 (ht:∀ x y,Cz p x→Cz p y→arrOK (two (CD x) (CD y)).1):arrOK (SY two f A B).1:=by
 unfold SY;split
 ·exact Ct
 ·split
  ·exact Ct
  ·rename_i h1
   have h1:=Classical.not_not.1 h1;split
   ·exact Ct
   ·have a6:=hA.len
    have b6:=hB.len
    have h6:(LG A.shape B.shape).1.length≤6∧shW (LG A.shape B.shape).1:=by
     have a7:=Eg (BG hA.2.1);have b7:=Eg (BG hB.2.1);unfold LG
     repeat' split
     all_goals first|exact ⟨a6,a7⟩|exact ⟨b6,b7⟩|exact ⟨by simp,Mc⟩
    have hn:IK A B≤2048:=by
     have:=hA.cells; have:=hB.cells
     unfold IK; split<;>omega
    refine DB (C6 _ _ hA.1 hB.1) (by omega) (by simp; omega) (fun c hc => ?_) h6.2;obtain ⟨i,hi,rfl⟩:=List.mem_map.1 hc;have hi:=List.mem_range.1 hi;have hx:=kA _ (List.mem_of_getElem? (AeX hA hB h1 hi));have hy:=kB _ (List.mem_of_getElem? (AeY hA hB h1 hi));exact Ak1 two f hx hy (ht _ _ hx hy)
theorem Ach (f:Int):∀ (d:Nat) (A B:Al),Gb d A→Gb d B→arrOK (VQ f d A B).1
 | 0,A,B,hA,hB=>VV _ f hA.1 hB.1 hA.2 hB.2 fun _ _ _ _=>Ct
 | d+1,A,B,hA,hB=>VV _ f hA.1 hB.1 hA.2 hB.2 fun x y hx hy=>Ach f d _ _ (Ji hx) (Ji hy)
theorem Gb.u {d:Nat} {A:Al} (h:Gb d A):∀ c ∈ A.cells,cellOK c:=Bw.1 h.arrOK.parts.2.2.2
theorem AM {c:Prop} [Decidable c] {a b:Al × Int} (ha:arrOK a.1) (hb:arrOK b.1):arrOK (if c then a else b).1:=by split<;>assumption
theorem G5 (f:Int) {d:Nat} {A B:Al} (hA:Gb d A) (hB:Gb d B) (rB:Cl 8 B=true):arrOK (J2 f d A B).1:=by
 have kA:=hA.j;have kB:=hB.j;have uA:=hA.u;have uB:=hB.u;have vA:=hA.arrOK;have vB:=hB.arrOK;unfold J2 Kh;refine AM (AkZ kA kB uB) ?_;refine AM (Xs kA kB vA vB false) ?_;refine AM (Xs kA kB vA vB true) ?_;refine AM (Afb kA kB uB false) ?_;refine AM (Afb kA kB uB true) ?_;refine AM ((Adr kA kB vB rB).1) ?_;refine AM (Afa kA kB uB _ _) ?_;refine AM (Afa kA kB uB _ _) ?_;refine AM (Ak0 kA kB uB) ?_;refine AM (vB) ?_;refine AM (vA) ?_;refine AM (Afe kA kB true) ?_;refine AM (Afe kA kB false) ?_;refine AM (Agy kA kB) ?_;refine AM (AdD kA kB) ?_;refine AM (Agz kA kB uA uB) ?_;refine AM (XW kA kB uA true) ?_;refine AM (XW kA kB uA false) ?_;refine AM (Afc kA kB uB false) ?_;refine AM (Afc kA kB uB true) ?_;refine AM (Afd kA kB uB false) ?_;refine AM (Afd kA kB uB true) ?_;exact Ach f d A B hA hB
def AgA (A:Al):Al:=.mk A.s [(A.shape.length:Int)] (A.shape.map BV)
theorem Ajp (A:Al) (kA:CI A):Ae Tryz.prog 25 [.agg (Ao A)] (.agg (Ao (AgA A))):=by
 have h6:=kA.len;have hsm:=kA.small;have ls:=Ac .i64 A.shape;unfold AgA;have hCS:∀ j z,A.shape[j]? = some z→(A.shape.map BV)[j]? = some (BV z):=fun j z h=>by rw [List.getElem?_map,h]; rfl
 have hCl:(A.shape.map BV).length=A.shape.length:=List.length_map ..;generalize A.shape.map BV=CS at *;have e0:=DI Au Bd CS;rw [hCl] at e0;refine Aa SG fun C hC => ?_;refine Aj ?_
 refine Ai [1,2,3,11,12] [0,1] (fun k:Nat=>[(13,nA k)]) (fun k=>[(2,some ⟨true,false,43,7,Gk Au Bd CS k⟩)]) 3
  (fun k=>k≤A.shape.length) (fun k=>A.shape.length - k) 0 (Nat.zero_le _) ?_ (hh:=by rw [← e0]; simp only [Int.toNat_natCast]; rfl)
 intro k hk;dsimp only [List.cons_append,List.nil_append] at hk ⊢;by_cases hlt:k<A.shape.length
 ·obtain ⟨z,hz⟩:∃ z,A.shape[k]? = some z:=⟨_,List.getElem?_eq_getElem hlt⟩
  have hzk:=Az (k:=.i64) hz;have hzr:=hsm z (List.mem_of_getElem? hz);have c1:=DJ z (by omega) (by omega);have hset:=DY Au Bd CS k _ (hCS k z hz);have hget:=DX Au Bd CS k (by omega);have hll:=DW Au Bd CS k (by omega);refine Aj ?_;exact ⟨k+1,by omega,by omega,BI hC.m [] (by rw [← hset]; rfl)⟩
 ·have hlenI:((CS.map Av).length:Int)=A.shape.length:=by rw [List.length_map,hCl]
  rw [DZ Au Bd CS k (by omega),show CS.map Au=CS.map Av from by simp [Bv]];refine A4 2 rfl ?_;refine Aj ?_;exact Am
def Ajq (A:Al):Al:=.mk A.s [(A.cells.length:Int)] A.cells
theorem Ak2 (A:Al) (hl:A.cells.length≤100000):Ae Tryz.prog 26 [.agg (Ao A)] (.agg (Ao (Ajq A))):=by
 have c1:=AaM (A.cells.map Av) (by rw [List.length_map]; omega);have lA:=AK A;refine Aa SH fun C hC => ?_;refine Aj ?_;exact Am
def Z6 (A:Al):Al:=LH (A.shape.headD 1) A.s
theorem Ak3 (A:Al) (kA:CI A):Ae Tryz.prog 33 [.agg (Ao A)] (.agg (Ao (Z6 A))):=by
 have hs:=kA.ok.parts.1;have hsm:=kA.small;have ls:=Ac .i64 A.shape;unfold Z6;cases hsh:A.shape with
 | nil =>
   have c1:=Qa 1 A.s (by omega) (by omega) hs;rw [hsh] at ls;show Ae _ _ _ (.agg (Ao (LH 1 A.s)));generalize LH 1 A.s=R at *;have l0:A.shape.length=0:=by rw [hsh]; rfl
   have ls:=Ac .i64 A.shape;refine Aa Kb fun C hC => ?_;refine Aj ?_;exact Am
 | cons z zs =>
   have hz:=hsm z (by rw [hsh]; simp);have c1:=Qa z A.s (by omega) (by omega) hs;show Ae _ _ _ (.agg (Ao (LH z A.s)));generalize LH z A.s=R at *;have l0:A.shape.length=zs.length+1:=by rw [hsh]; rfl
   have hzk:(Ab .i64 A.shape)[(0:Int).toNat]? = some [.lit (.int .i64 z)]:=Az (by rw [hsh]; rfl);refine Aa Kb fun C hC => ?_;refine Aj ?_;exact Am
def AgB (A:Al):Al:=LH (GQ A) (A8 A)
theorem Ajr {d:Nat} (A:Al) (hd:d≤100) (hA:okA A) (hr:Cl d A=true) (h0:0≤GQ A) (h1:GQ A≤1000):Ae Tryz.prog 32 [.agg (Ao A)] (.agg (Ao (AgB A))):=by
 have c1:=Y2 d A hd hA hr;have c2:=C9 A hA;have c3:=Qa (GQ A) (A8 A) h0 (by omega) (Bg A hA);unfold AgB;generalize LH (GQ A) (A8 A)=R at *;refine Aa SJ fun C hC => ?_;refine Aj ?_;exact Am
def Z7 (A:Al):Al:=FQ (HC (if A.cells.length > 0 then A.cells.getD 0 AS else Gc A)) A.s
theorem Ak4 {p:Al→Prop} {A:Al} (h:∀ c ∈ A.cells,Cz p c):Cz p (Gc A):=by
 unfold Gc;cases e:A.cells with
 | nil=>exact ⟨by show (0:Nat)<_; omega,.inl ⟨rfl,rfl,rfl,⟨0,1,P9 0,by omega,by rw [LF]; omega,by rw [BC]; simp⟩⟩⟩
 | cons c cs =>
   have hl:=(h c (by rw [e]; simp)).1;dsimp only;split
   ·exact ⟨hl,.inr (.inl ⟨rfl,rfl,rfl,wf_i64 (by show (-9223372036854775808:Int)≤32; omega) (by show (32:Int)≤_; omega)⟩)⟩
   ·exact ⟨hl,.inl ⟨rfl,rfl,rfl,⟨0,1,P9 0,by omega,by rw [LF]; omega,by rw [BC]; simp⟩⟩⟩
theorem Ajs {c:Ah} (h:cellOK c):(HC c).s<18446744073709551616:=by
 unfold HC;split
 ·rename_i g
  obtain ⟨a,ha⟩:=List.length_eq_one_iff.1 g.2;rw [ha];exact C6 _ _ (Ajn h a (by rw [ha]; simp)).parts.1 h.parts.1
 ·exact C6 _ _ (by omega) h.parts.1
theorem Ak5 {d:Nat} (A:Al) (tA:Gb d A):Ae Tryz.prog 31 [.agg (Ao A)] (.agg (Ao (Z7 A))):=by
 have kA:=tA.j;have c1:=ZP A;have lA:=AK A;unfold Z7;by_cases h:A.cells.length > 0
 ·rw [if_pos h]
  have hd:A.cells[0]? = some (A.cells.getD 0 AS):=by rw [List.getD_eq_getElem?_getD,List.getElem?_eq_getElem h]; rfl
  have hdk:(A.cells.map Av)[(0:Int).toNat]? = some (Au (A.cells.getD 0 AS)):=A9 hd;have hdo:=tA.cell (List.mem_of_getElem? hd);have c2:=VI _ hdo;have c3:=Gu _ A.s (Ajs (Ig tA.u 0)) kA.ok.parts.1;generalize A.cells.getD 0 AS=c at *;generalize FQ (HC c) A.s=R at *;generalize HC c=U at *;refine Aa Ka fun C hC => ?_;refine Aj ?_;exact Am
 ·rw [if_neg h]
  have hdo:Cz (Gb d) (Gc A):=Ak4 fun c hc=>tA.cell hc;have c2:=VI _ hdo;have c3:=Gu _ A.s (Ajs (Qi tA.u)) kA.ok.parts.1;generalize Gc A=c at *;generalize FQ (HC c) A.s=R at *;generalize HC c=U at *;refine Aa Ka fun C hC => ?_;refine Aj ?_;exact Am
theorem Ajt {P:Program} {C:EH} {Q:Exit→St→Prop} {st:St} {c:Bi} (id i:Nat) {o:OB} {row:List AV} (ho:hl st.h id=some o) (hrow:o.row=false) (hes:o.es=[row]) {a b:AV} (hi:row[i]? = some a) (hz:Nat.blt 0 o.sz=true) (hab:∀ E w v,Cr E w st.h→(∀ j,imV true E st.h j→E.im j)→Rd E w a v→Rd E w b v)
 (h:AW P C c Q ⟨st.t,(id,some { o with es:=[row.set i b] })::st.h,st.nx⟩):AW P C c Q st:=by
 refine DM (s':=⟨st.t,(id,some { o with es:=[row.set i b] })::st.h,st.nx⟩) (fun E ac w R => ?_) h
 have key:∀ k o',hl ((id,some { o with es:=[row.set i b] })::st.h) k=some o'→(k=id∧o'={ o with es:=[row.set i b] })∨hl st.h k=some o':=fun k o' h=>by
  rcases B2 h with ⟨h1,h2⟩|⟨_,h2⟩
  ·exact .inl ⟨h1,(Option.some.inj h2).symm⟩
  ·exact .inr h2
 have keyO:∀ k o1,hl ((id,some { o with es:=[row.set i b] })::st.h) k=some o1→∃ o3,hl st.h k=some o3∧o3.ro=o1.ro:=fun k o1 h=>by
  rcases key k o1 h with ⟨rfl,rfl⟩|h
  ·exact ⟨o,ho,rfl⟩
  ·exact ⟨o1,h,rfl⟩
 refine ⟨E,R.defers,R.size,R.tm,⟨?_,?_,?_,R.heap.lt⟩,R.nx,?_,R.ext,R.imx,R.imn,R.frm⟩
 ·intro k o' h1 h2
  rcases key k o' h2 with ⟨rfl,rfl⟩|h2
  ·obtain ⟨k1,k2⟩:=R.heap.ob k o h1 ho
   refine ⟨k1,?_⟩;rw [hrow] at k2;show (bif o.row then _ else _);rw [hrow];have hpos:0<o.sz:=by simpa [Nat.blt_eq] using hz
   obtain ⟨g,vs,cs,j1,j2,j3,j4,j5,j6⟩:X4 _ _ _ _:=k2.elim (fun h=>h.2) (fun h=>absurd h.1 (by omega));rw [hes] at j3;obtain rfl:row=cs:=by simpa using j3
   refine .inl ⟨hpos,g,vs,_,j1,j2,rfl,j4,B8.setAt j5 hi (fun v hk=>hab E w v R.heap (fun j hj => ?_) hk),j6⟩;rcases hj with hj|⟨id,o,k1,k2,k3,k4⟩
   ·exact hj
   ·exact (R.heap.im id o j k1 k2 k3).2 (k4 rfl)
  ·exact R.heap.ob k o' h1 h2
 ·intro k k' o1 o2 b h1 h2 h3 h4 h5 h6
  obtain ⟨p1,q1,_⟩:=keyO k o1 h3;obtain ⟨p2,q2,_⟩:=keyO k' o2 h4;exact R.heap.apart k k' p1 p2 b h1 h2 q1 q2 h5 h6
 ·intro k o' b h1 h2 h3
  obtain ⟨p1,q1,e⟩:=keyO k o' h2;rw [← e]; exact R.heap.im k p1 b h1 q1 h3
 ·intro k o' b h1 h2 h3
  obtain ⟨p1,q1,e⟩:=keyO k o' h2;exact R.own k p1 b h1 q1 h3
theorem Aci {P:Program} {C:EH} {Q:Exit→St→Prop} {st:St} {c:Bi} (id i:Nat) {o:OB} {row:List AV} (ho:hl st.h id=some o) (hrow:o.row=false) (hes:o.es=[row]) {a b:AV} (hi:row[i]? = some a) (hv:C4 true st.h 4 a=some b) (hz:Nat.blt 0 o.sz=true)
 (h:AW P C c Q ⟨st.t,(id,some { o with es:=[row.set i b] })::st.h,st.nx⟩):AW P C c Q st :=
  Ajt id i ho hrow hes hi hz (fun E w v H him hk=>Dm.rd _ _ (Dm.mono him (fun _ _=>rfl) _ _ (HS H 4 a _ b hk hv))) h
theorem Tp {P:Program} {C:EH} {Q:Exit→St→Prop} {st:St} {c:Bi} (id i sz:Nat) {o:OB} {row:List AV} (ho:hl st.h id=some o) (hrow:o.row=false) (hes:o.es=[row]) (hi:row[i]? = some (.lit (.slice none 0 0))) (hz:Nat.blt 0 o.sz=true)
 (h:AW P C c Q ⟨st.t,(id,some { o with es:=[row.set i (.sl sz [])] })::st.h,st.nx⟩):AW P C c Q st :=
  Ajt (b:=.sl sz []) id i ho hrow hes hi hz (fun E w v _ _ hk=>Bl.nil sz E.im w v hk) h
def Acj (A:Al):Bool:=Ff A && (A.cells.getD 0 (.mk 0 0 ⟨false,[],[]⟩ 0 [])).kind != 2
def Qk (A:Al):Nat:=if A.shape.length=0 then (A.cells.getD 0 AS).l else 0
def VW (A:Al):Al × Int :=
 if Acj A then (A,0) else if GQ A > 8 then (zA,7) else (.mk A.s [] [.mk (Qk A) 2 zN 0 [A]],0)
theorem AgC {d:Nat} (A:Al) (hd:d≤100) (kA:CI A) (hr:Cl d A=true):Ae Tryz.prog 30 [.agg (Ao A)] (.tup [.agg (Ao (VW A).1),nA (VW A).2]):=by
 have c1:Ae Tryz.prog 89 [.agg (Ao A)] (.lit (.bool (Acj A))):=R6 A;have c2:=Y2 d A hd kA.ok hr;have hdl:=JQ d A hr;have ls:=Ac .i64 A.shape;have lA:=AK A;unfold VW Qk;cases hs:Acj A
 ·rw [hs] at c1
  rw [if_neg (by simp)];by_cases h8:GQ A > 8
  ·rw [if_pos h8]
   refine Aa DQ fun C hC => ?_;refine Aj ?_;exact Am
  ·rw [if_neg h8]
   have hrow:[A].map Dg=[Ao A]:=by simp [OY]
   have hcell:∀ l:Nat,[Ah.mk l 2 zN 0 [A]].map Av=[[CG l,nA 2,.lit (.bool false),.sl 1 [],.sl 1 [],nA 0,.sl 3 [Ao A]]]:=fun l=>by rw [← hrow]; rfl
   have harr:∀ (l:Nat),Ao (.mk A.s [] [.mk l 2 zN 0 [A]])=[CG A.s,.sl 1 [],.sl 7 [[CG l,nA 2,.lit (.bool false),.sl 1 [],.sl 1 [],nA 0,.sl 3 [Ao A]]]]:=fun l=>by rw [← hcell]; rfl
   by_cases h0:A.shape.length=0
   ·rw [if_pos h0,harr]
    have hl1:A.cells.length=1:=by have:=kA.c; rw [List.eq_nil_of_length_eq_zero h0,JZ] at this; dsimp only at this; omega
    have hg:A.cells[0]? = some (A.cells.getD 0 AS):=by rw [List.getD_eq_getElem?_getD,List.getElem?_eq_getElem (by omega)]; rfl
    have hgk:(A.cells.map Av)[(0:Int).toNat]? = some (Au (A.cells.getD 0 AS)):=A9 hg;generalize A.cells.getD 0 AS=c at *;clear hrow hcell harr;have kk:True→_:=fun _=>hgk;clear hgk hg;refine Aa DQ fun C hC => ?_;refine Aj ?_;have hgk:=kk trivial;refine A5 ?_;refine Ak ⟨rfl,?_⟩;refine D3 [1,2,4] [0,1,2,3] 4 (kt:=[(1,.optr 0 0 0),(2,.optr 1 0 0),(4,.optr 3 0 0)]) (kh:=[(0,some ⟨false,false,26,3,[Ao A]⟩),(1,some ⟨false,false,26,3,[[.lit (.int .u64 0),.lit (.slice none 0 0),.lit (.slice none 0 0)]]⟩),(2,some ⟨true,false,26,3,[Ao A]⟩),(3,some ⟨false,false,43,7,[[CG c.l,nA 2,.lit (.bool false),.lit (.slice none 0 0),.lit (.slice none 0 0),nA 0,.own 2]]⟩)]) ?_;refine A4 2 rfl ?_;refine Aci 3 6 rfl rfl rfl rfl rfl rfl ?_;refine Tp 3 3 1 rfl rfl rfl rfl rfl ?_;refine Tp 3 4 1 rfl rfl rfl rfl rfl ?_;refine D3 [1,2,4] [0,1,3] 4 (kt:=[(1,.optr 0 0 0),(2,.optr 1 0 0),(4,.optr 3 0 0)]) (kh:=[(0,some ⟨false,false,26,3,[Ao A]⟩),(1,some ⟨false,false,26,3,[[.lit (.int .u64 0),.lit (.slice none 0 0),.lit (.slice none 0 0)]]⟩),(3,some ⟨false,false,43,7,[[CG c.l,nA 2,.lit (.bool false),.sl 1 [],.sl 1 [],nA 0,.sl 3 [Ao A]]]⟩)]) ?_;refine Aj ?_;exact Am
   ·rw [if_neg h0,harr]
    clear hrow hcell harr;have kk:True→¬ A.shape.length=0:=fun _=>h0;clear h0;refine Aa DQ fun C hC => ?_;refine Aj ?_;have h0:=kk trivial;rw [show ((A.shape.length:Int) == 0)=false from beq_eq_false_iff_ne.2 (by omega)];refine A5 ?_;refine Ak ⟨rfl,?_⟩;refine D3 [1,2,4,24] [0,1,2,3] 4 (kt:=[(1,.optr 0 0 0),(2,.optr 1 0 0),(4,.optr 3 0 0),(24,.lit (.bool false))]) (kh:=[(0,some ⟨false,false,26,3,[Ao A]⟩),(1,some ⟨false,false,26,3,[[.lit (.int .u64 0),.lit (.slice none 0 0),.lit (.slice none 0 0)]]⟩),(2,some ⟨true,false,26,3,[Ao A]⟩),(3,some ⟨false,false,43,7,[[CG 0,nA 2,.lit (.bool false),.lit (.slice none 0 0),.lit (.slice none 0 0),nA 0,.own 2]]⟩)]) ?_;refine A4 2 rfl ?_;refine Aci 3 6 rfl rfl rfl rfl rfl rfl ?_;refine Tp 3 3 1 rfl rfl rfl rfl rfl ?_;refine Tp 3 4 1 rfl rfl rfl rfl rfl ?_;refine D3 [1,2,4,24] [0,1,3] 4 (kt:=[(1,.optr 0 0 0),(2,.optr 1 0 0),(4,.optr 3 0 0),(24,.lit (.bool false))]) (kh:=[(0,some ⟨false,false,26,3,[Ao A]⟩),(1,some ⟨false,false,26,3,[[.lit (.int .u64 0),.lit (.slice none 0 0),.lit (.slice none 0 0)]]⟩),(3,some ⟨false,false,43,7,[[CG 0,nA 2,.lit (.bool false),.sl 1 [],.sl 1 [],nA 0,.sl 3 [Ao A]]]⟩)]) ?_;refine Aj ?_;exact Am
 ·rw [hs] at c1
  rw [if_pos rfl];clear c2;refine Aa DQ fun C hC => ?_;refine Aj ?_;exact Am
end Go.Proofs.YtjcolpcfcdkckaaGreat
