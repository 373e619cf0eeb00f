/- The deferred closures that recover: where nobody panics they do nothing. -/
import Derived.Test.YtjcolpcfcdkckaaGreatK34
set_option maxRecDepth 10000
set_option maxHeartbeats 2000000
namespace Go.Proofs.YtjcolpcfcdkckaaGreat
set_option linter.unusedVariables false
open Go.RowKit
theorem RD:ML Tryz.prog 94 := by
 refine ⟨⟨_,Tryz.func94,by rfl,by rfl⟩,fun args w => ?_⟩;refine callsD_of_wpS Tryz.func94 rfl fun c₀ cs hu => ?_;rw [Tryz.ntmps94];have hsz:5≤(args++Array.replicate (5 - args.size) undef).size:=by simp; omega
 generalize (args++Array.replicate (5 - args.size) undef)=T at hsz ⊢;have h2:2<T.size:=by omega
 have h3:3<T.size:=by omega
 apply wpS_seq;apply wpS_region;simp [wpOpsS,go_sem,recoverD,hu,Exit.thenS,h2];refine wpS_cond (t:=false) (by simp [Act.eval,h3]) ?_;simp only [Bool.false_eq_true,if_false];refine wpS_of_wp (wp_skip ?_);cases c₀;simp_all [bodyPostS,results,Tryz.results94]
theorem Jn:ML Tryz.prog 97 := by
 refine ⟨⟨_,Tryz.func97,by rfl,by rfl⟩,fun args w => ?_⟩;refine callsD_of_wpS Tryz.func97 rfl fun c₀ cs hu => ?_;rw [Tryz.ntmps97];have hsz:5≤(args++Array.replicate (5 - args.size) undef).size:=by simp; omega
 generalize (args++Array.replicate (5 - args.size) undef)=T at hsz ⊢;have h2:2<T.size:=by omega
 have h3:3<T.size:=by omega
 apply wpS_seq;apply wpS_region;simp [wpOpsS,go_sem,recoverD,hu,Exit.thenS,h2];refine wpS_cond (t:=false) (by simp [Act.eval,h3]) ?_;simp only [Bool.false_eq_true,if_false];refine wpS_of_wp (wp_skip ?_);cases c₀;simp_all [bodyPostS,results,Tryz.results97]
theorem G4 {N:Al} (h:N.cells.length≤2048):(AB N).1.length≤2048:=by
 unfold AB;split
 ·exact Nat.zero_le _
 ·split
  ·rename_i l hl; have:=GZ hl; dsimp only; omega
  ·exact Nat.zero_le _
def B7 (A:Al):List Ah:=if A.cells.length=0 then [Gc A] else A.cells
theorem Agu (A:Al):0<(B7 A).length:=by
 unfold B7; split
 ·exact Nat.one_pos
 ·omega
def VR (A:Al) (n:Nat):List Ah:=(List.range n).map fun i=>(B7 A).getD (i % (B7 A).length) AS
def VS (N A:Al):Al × Int :=
 if (AB N).2≠0 then (zA,(AB N).2) else
 if (Co (AB N).1).2≠0 then (zA,(Co (AB N).1).2) else
 (.mk (A.s ||| A8 N) (AB N).1 (VR A (Co (AB N).1).1.toNat),0)
theorem Ani (N A:Al) (hN:arrOK N) (kN:CI N) (hs:A.s<18446744073709551616) (hl:A.cells.length≤2048):Ae Tryz.prog 17 [.agg (Ao N),.agg (Ao A)] (.tup [.agg (Ao (VS N A).1),nA (VS N A).2]):=by
 have c0:=Ef N hN kN.ok;have ll:=Ac .i64 (AB N).1;unfold VS;by_cases h0:(AB N).2=0
 ·rw [h0] at c0
  rw [if_neg (fun h=>h h0)];have c1:=FT (AB N).1;have hle:=E6 (AB N).1;generalize (AB N).1=l at c0 ll c1 hle ⊢;by_cases h1:(Co l).2=0
  ·rw [h1] at c1
   rw [if_neg (fun h=>h h1)];have c2:=ZP A;have c3:=C9 N kN.ok;have c4:=FF A.s (A8 N) hs (Bg N kN.ok);have lA:=AK A;obtain ⟨n,hn⟩:∃ n:Nat,(Co l).1=n:=⟨(Co l).1.toNat,by omega⟩;rw [hn] at c1 ⊢;rw [Int.toNat_natCast];have hn2:n≤2048:=by omega
   have hCl:(VR A n).length=n:=by simp [VR]
   have hCg:∀ i,i<n→(VR A n)[i]? = some ((B7 A).getD (i % (B7 A).length) AS):=fun i hi=>by simp [VR,hi]
   have hF:(A.cells.length=0∧B7 A=[Gc A])∨(A.cells.length≠0∧B7 A=A.cells):=by
    unfold B7; split
    ·exact .inl ⟨by assumption,rfl⟩
    ·exact .inr ⟨by assumption,rfl⟩
   have hFp:=Agu A
   have hFl:(B7 A).length≤2048:=by
    unfold B7; split
    ·simp
    ·exact hl
   generalize VR A n=CS at hCl hCg ⊢;subst hCl;have e0:=DI Au Bd CS;have lF:(((B7 A).map Av).length:Int)=(B7 A).length:=by simp
   have round:∀ k,k<CS.length→((B7 A).map Av)[((k:Int) % ((B7 A).length:Int)).toNat]? = some (Au ((B7 A).getD (k % (B7 A).length) AS)):=fun k hk=>by
    rw [← Int.natCast_emod,Int.toNat_natCast];have hlt:k % (B7 A).length<(B7 A).length:=Nat.mod_lt _ hFp;rw [List.getD_eq_getElem?_getD,List.getElem?_eq_getElem hlt];exact A9 (List.getElem?_eq_getElem hlt)
   refine Aa Fb fun C hC => ?_;rcases hF with ⟨z1,z2⟩|⟨z1,z2⟩
   ·have hX:[Au (Gc A)]=(B7 A).map Av:=by rw [z2]; simp [Bv]
    refine Aj ?_;refine A4 3 rfl ?_;refine LR 9 rfl rfl ?_;refine Eu 9 (.sl 7 ((B7 A).map Av)) (by rw [← hX]; rfl) ?_;refine Eu 41 (nA (CS.length:Int)) (by show AV.lit (.int .i64 ((List.replicate _ _).length:Int))=_; rw [List.length_replicate]; rfl) ?_
    refine Ai [2,3,4,6,9,10,41] [0,1,2] (fun k:Nat=>[(42,nA k)]) (fun k=>[(4,some ⟨true,false,43,7,Gk Au Bd CS k⟩)]) 5
     (fun k=>k≤CS.length) (fun k=>CS.length - k) 0 (Nat.zero_le _) ?_
    intro k hk;dsimp only [List.cons_append,List.nil_append] at hk ⊢;by_cases hlt:k<CS.length
    ·have hr:=round k hlt
     have hset:=DY Au Bd CS k _ (hCg k hlt);have hget:=DX Au Bd CS k hlt;have hll:=DW Au Bd CS k hk;have hF0:(0:Int)<(B7 A).length:=by omega
     have hm0:0≤(k:Int) % ((B7 A).length:Int):=Int.emod_nonneg _ (by omega);have hm1:(k:Int) % ((B7 A).length:Int)<(B7 A).length:=Int.emod_lt_of_pos _ hF0;generalize (B7 A).getD (k % (B7 A).length) AS=c at hr hset;refine Aj ?_;exact ⟨k+1,by omega,by omega,BI hC.m [] (by rw [← hset]; rfl)⟩
    ·rw [DZ Au Bd CS k hlt,show CS.map Au=CS.map Av from by simp [Bv]]
     refine Aj ?_;exact Am
   ·refine Aj ?_
    refine Eu 9 (.sl 7 ((B7 A).map Av)) (by rw [z2]; rfl) ?_;refine Eu 41 (nA (CS.length:Int)) (by show AV.lit (.int .i64 ((List.replicate _ _).length:Int))=_; rw [List.length_replicate]; rfl) ?_
    refine Ai [2,3,4,6,9,10,41] [0,1,2] (fun k:Nat=>[(42,nA k)]) (fun k=>[(3,some ⟨true,false,43,7,Gk Au Bd CS k⟩)]) 4
     (fun k=>k≤CS.length) (fun k=>CS.length - k) 0 (Nat.zero_le _) ?_
    intro k hk;dsimp only [List.cons_append,List.nil_append] at hk ⊢;by_cases hlt:k<CS.length
    ·have hr:=round k hlt
     have hset:=DY Au Bd CS k _ (hCg k hlt);have hget:=DX Au Bd CS k hlt;have hll:=DW Au Bd CS k hk;have hF0:(0:Int)<(B7 A).length:=by omega
     have hm0:0≤(k:Int) % ((B7 A).length:Int):=Int.emod_nonneg _ (by omega);have hm1:(k:Int) % ((B7 A).length:Int)<(B7 A).length:=Int.emod_lt_of_pos _ hF0;generalize (B7 A).getD (k % (B7 A).length) AS=c at hr hset;refine Aj ?_;exact ⟨k+1,by omega,by omega,BI hC.m [] (by rw [← hset]; rfl)⟩
    ·rw [DZ Au Bd CS k hlt,show CS.map Au=CS.map Av from by simp [Bv]]
     refine Aj ?_;exact Am
  ·rw [if_pos h1]
   generalize (Co l).2=e at *;generalize (Co l).1=e' at *;refine Aa Fb fun C hC => ?_;refine Aj ?_;exact Am
 ·rw [if_pos h0]
  generalize (AB N).2=e at *;refine Aa Fb fun C hC => ?_;refine Aj ?_;exact Am
def upL (l x y:Nat):Prop:=x ||| y=y∧y ||| (x ||| l)=x ||| l
theorem Acb (l x:Nat):upL l x x:=⟨Nat.or_self x,by rw [← Nat.or_assoc,Nat.or_self]⟩
mutual
def upA (l:Nat):Al→Al→Prop
 | .mk s sh cs,.mk s' sh' cs'=>upL l s s'∧sh=sh'∧J1 l cs cs'
def J1 (l:Nat):List Ah→List Ah→Prop
 | [],[]=>True
 | c::cs,d::ds=>upC l c d∧J1 l cs ds
 | _,_=>False
def upC (l:Nat):Ah→Ah→Prop
 | .mk a k n c ins,.mk a' k' n' c' ins'=>upL l a a'∧k=k'∧n=n'∧c=c'∧Agv l ins ins'
def Agv (l:Nat):List Al→List Al→Prop
 | [],[]=>True
 | a::us,b::vs=>upA l a b∧Agv l us vs
 | _,_=>False
end
theorem ZW {l:Nat} {A B:Al}:upA l A B↔upL l A.s B.s∧A.shape=B.shape∧J1 l A.cells B.cells:=by cases A; cases B; rw [upA]; exact Iff.rfl
theorem AkX {l:Nat} {c d:Ah}:upC l c d↔upL l c.l d.l∧c.kind=d.kind∧c.n=d.n∧c.c=d.c∧Agv l c.ins d.ins:=by cases c; cases d; rw [upC]; exact Iff.rfl
mutual
theorem Aja (l:Nat):∀ A:Al,upA l A A
 | .mk s sh cs=>by rw [upA]; exact ⟨Acb l s,rfl,XT l cs⟩
theorem XT (l:Nat):∀ cs:List Ah,J1 l cs cs
 | []=>by rw [J1]; trivial
 | c::cs=>by rw [J1]; exact ⟨Acc l c,XT l cs⟩
theorem Acc (l:Nat):∀ c:Ah,upC l c c
 | .mk a k n c ins=>by rw [upC]; exact ⟨Acb l a,rfl,rfl,rfl,XU l ins⟩
theorem XU (l:Nat):∀ us:List Al,Agv l us us
 | []=>by rw [Agv]; trivial
 | a::us=>by rw [Agv]; exact ⟨Aja l a,XU l us⟩
end
theorem Acd {l:Nat}:∀ {cs ds:List Ah},J1 l cs ds↔cs.length=ds.length∧∀ i,upC l (cs.getD i AS) (ds.getD i AS)
 | [],[]=>⟨fun _=>⟨rfl,fun i=>by simpa using Acc l AS⟩,fun _=>by simp [J1]⟩
 | [],d::ds=>by simp [J1]
 | c::cs,[]=>by simp [J1]
 | c::cs,d::ds=>by
   rw [J1,Acd (cs:=cs) (ds:=ds)];constructor
   ·rintro ⟨h1,h2,h3⟩
    refine ⟨by simpa using h2,fun i => ?_⟩;cases i with
    | zero=>simpa using h1
    | succ i=>simpa using h3 i
   ·rintro ⟨h1,h2⟩
    refine ⟨by simpa using h2 0,by simpa using h1,fun i=>by simpa using h2 (i+1)⟩
theorem Ajb {l:Nat} {cs ds:List Ah} (h:J1 l cs ds):cs.length=ds.length:=(Acd.1 h).1
theorem upA.sh {l:Nat} {A B:Al} (h:upA l A B):A.shape=B.shape:=(ZW.1 h).2.1
theorem upA.cs {l:Nat} {A B:Al} (h:upA l A B):J1 l A.cells B.cells:=(ZW.1 h).2.2
theorem upA.sl {l:Nat} {A B:Al} (h:upA l A B):upL l A.s B.s:=(ZW.1 h).1
theorem upA.len {l:Nat} {A B:Al} (h:upA l A B):A.cells.length=B.cells.length:=Ajb h.cs
theorem upC.int {l:Nat} {c d:Ah} (h:upC l c d):intOf c=intOf d:=by
 obtain ⟨_,h1,h2,_⟩:=AkX.1 h;unfold intOf; rw [h1,h2]
theorem J1.ints {l:Nat}:∀ {cs ds:List Ah},J1 l cs ds→Ez cs=Ez ds
 | [],[],_=>rfl
 | c::cs,d::ds,h=>by rw [J1] at h; rw [Ez,Ez,h.1.int,J1.ints h.2]
 | [],_::_,h=>by simp [J1] at h
 | _::_,[],h=>by simp [J1] at h
theorem upA.ints {l:Nat} {A B:Al} (h:upA l A B):AB A=AB B:=by
 unfold AB; rw [h.sh,h.cs.ints]
end Go.Proofs.YtjcolpcfcdkckaaGreat
