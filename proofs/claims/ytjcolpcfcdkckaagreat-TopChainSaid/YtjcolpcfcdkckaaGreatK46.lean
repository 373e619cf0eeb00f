/- The scalar functions of one array, to any depth. -/
import Derived.Test.YtjcolpcfcdkckaaGreatK39
import Derived.Test.YtjcolpcfcdkckaaGreatK40
import Derived.Test.YtjcolpcfcdkckaaGreatK45
set_option maxRecDepth 10000
set_option maxHeartbeats 4000000
namespace Go.Proofs.YtjcolpcfcdkckaaGreat
set_option linter.unusedVariables false
open Go.RowKit
def RN (f:Int):Bool:=[43,45,215,247,8968,8970,124,126,33].any (fun z=>f == z)
theorem Ajy {f:Int} (h:RN f=false):Ae Tryz.prog 101 [.lit (.int .i64 f)] (.lit (.bool false)):=by
 simp only [RN,List.any_cons,List.any_nil,Bool.or_false,Bool.or_eq_false_iff,beq_eq_false_iff_ne] at h;obtain ⟨h1,h2,h3,h4,h5,h6,h7,h8,h9⟩:=h;refine Aa H3 fun C hC => ?_;refine Aj ?_;exact Am
theorem AgH {f:Int} (h:RN f=true):Ae Tryz.prog 101 [.lit (.int .i64 f)] (.lit (.bool true)):=by
 simp only [RN,List.any_cons,List.any_nil,Bool.or_false,Bool.or_eq_true,beq_iff_eq] at h;refine Aa H3 fun C hC => ?_;rcases h with h|h|h|h|h|h|h|h|h<;>subst h
 all_goals
  refine Aj ?_;exact Am
open Classical in
noncomputable def AdI (f:Int) (m:Fx):Fx × Int :=
 if h:∃ re:Fx × Int,DH re.1∧Ae Tryz.prog 151 [nA f,.agg (AY m)] (.tup [.agg (AY re.1),nA re.2]) then Classical.choose h else (zN,0)
theorem Ajz (f:Int) {m:Fx} (hm:JY m):DH (AdI f m).1∧Ae Tryz.prog 151 [nA f,.agg (AY m)] (.tup [.agg (AY (AdI f m).1),nA (AdI f m).2]):=by
 obtain ⟨x,a,rfl,ha,lx,la⟩:=hm;obtain ⟨r,e,hR,hc⟩:=AmE f x a ha lx la;have h:∃ re:Fx × Int,DH re.1∧Ae Tryz.prog 151 [nA f,.agg (AY (qN x a))] (.tup [.agg (AY re.1),nA re.2]):=⟨(r,e),hR,hc⟩;unfold AdI;rw [dif_pos h];exact Classical.choose_spec h
noncomputable def IL (one:Al→Al × Int) (f:Int) (x:Ah):Ah × Int :=
 if x.kind=0 then (.mk x.l 0 (AdI f x.n).1 0 [],(AdI f x.n).2)
 else if x.kind=2 then (.mk x.l 2 zN 0 [(one (CD x)).1],(one (CD x)).2)
 else (.mk 0 0 zN 0 [],3)
noncomputable def V4 (one:Al→Al × Int) (f:Int) (A:Al):Al × Int :=
 if RN f=false then (zA,8) else
 if IJ (A.cells.map fun c=>(IL one f c).2)≠0 then (zA,IJ (A.cells.map fun c=>(IL one f c).2)) else
 (.mk A.s A.shape (A.cells.map fun c=>(IL one f c).1),0)
noncomputable def Acl (f:Int):Nat→Al→Al × Int
 | 0=>V4 (fun _=>(zA,3)) f
 | d+1=>V4 (Acl f d) f
theorem XZ {p:Al→Prop} (one:Al→Al × Int) (f:Int) (x:Ah) (hx:Cz p x)
 (ht:x.kind=2→Ae Tryz.prog 39 [nA f,.agg (Ao (CD x))] (.tup [.agg (Ao (one (CD x)).1),nA (one (CD x)).2])) :
 Ae Tryz.prog 102 [nA f,.agg (Au x)] (.tup [.agg (Au (IL one f x).1),nA (IL one f x).2]):=by
 have zn:zN.top=[]∧zN.bot=[]∧zN.neg=false:=⟨rfl,rfl,rfl⟩;unfold IL;by_cases h0:x.kind=0
 ·rw [if_pos h0]
  have q:JY x.n:=by
   rcases hx.2 with h|h|h
   ·exact h.2.2.2
   ·have:=h.1; omega
   ·have:=h.1; omega
  have c1:=(Ajz f q).2;generalize AdI f x.n=r at *;obtain ⟨r,e⟩:=r;dsimp only at c1 ⊢;clear ht;refine Aa Ek fun C hC => ?_;refine Aj ?_;exact Am
 ·rw [if_neg h0]
  by_cases h2:x.kind=2
  ·rw [if_pos h2]
   have c3:=ht h2
   obtain ⟨a,ha⟩:∃ a,x.ins=[a]:=by
    rcases hx.2 with h|h|h
    ·have:=h.1; omega
    ·have:=h.1; omega
    ·obtain ⟨_,_,_,a,ha,_⟩:=h; exact ⟨a,ha⟩
   have hc:CD x=a:=by unfold CD; rw [if_pos h2,ha]; rfl
   rw [hc] at c3 ⊢;have c1:=AbZ x a ha;clear ht hc;generalize one a=r at c3 ⊢;obtain ⟨r,e⟩:=r;dsimp only at c3 ⊢;have hrow:[r].map Dg=[Ao r]:=by simp [OY]
   rw [show Au (.mk x.l 2 zN 0 [r])=[CG x.l,nA 2,.lit (.bool false),.sl 1 [],.sl 1 [],nA 0,.sl 3 [Ao r]] from by rw [← hrow]; rfl];refine Aa Ek fun C hC => ?_;refine Aj ?_;exact Am
  ·rw [if_neg h2]
   clear ht;rw [show Au (.mk 0 0 zN 0 [])=[CG 0,nA 0,.lit (.bool false),.sl 1 [],.sl 1 [],nA 0,.sl 3 []] from rfl];refine Aa Ek fun C hC => ?_;refine Aj ?_;exact Am
theorem AjA {p:Al→Prop} (one:Al→Al × Int) (f:Int) (A:Al) (hA:EA A) (kA:∀ c ∈ A.cells,Cz p c)
 (ht:∀ x,Cz p x→Ae Tryz.prog 102 [nA f,.agg (Au x)] (.tup [.agg (Au (IL one f x).1),nA (IL one f x).2])) :
 Ae Tryz.prog 39 [nA f,.agg (Ao A)] (.tup [.agg (Ao (V4 one f A).1),nA (V4 one f A).2]):=by
 have lsA:=hA.len;have lcA:=hA.cells;have ls:=Ac .i64 A.shape;have lA:=AK A;have cl:=CN (Ab .i64 A.shape) (by omega);unfold V4;cases h1:RN f with
 | false =>
   have c1:=Ajy h1;rw [if_pos rfl];clear ht;refine Aa Kc fun C hC => ?_;refine Aj ?_;exact Am
 | true =>
 have c1:=AgH h1;rw [if_neg (by decide)];have hcall:∀ c ∈ A.cells,Ae Tryz.prog 102 [nA f,.agg (Au c)] (.tup [.agg (Au (IL one f c).1),nA (IL one f c).2]):=fun c hc=>ht c (kA c hc);obtain ⟨g,hg⟩:∃ g,g=IL one f:=⟨_,rfl⟩;rw [← hg] at hcall ⊢;clear ht kA hg;obtain ⟨CS,hCS⟩:∃ CS,CS=A.cells.map fun c=>(g c).1:=⟨_,rfl⟩;obtain ⟨ES,hES⟩:∃ ES,ES=A.cells.map fun c=>(g c).2:=⟨_,rfl⟩;have hCg:∀ (i:Nat) c,A.cells[i]? = some c→CS[i]? = some (g c).1:=fun i c h=>by rw [hCS,List.getElem?_map,h]; rfl
 have hEg:∀ (i:Nat) c,A.cells[i]? = some c→ES[i]? = some (g c).2:=fun i c h=>by rw [hES,List.getElem?_map,h]; rfl
 have hCl:CS.length=A.cells.length:=by rw [hCS]; simp
 have hEl:ES.length=A.cells.length:=by rw [hES]; simp
 rw [← hCS,← hES];clear hCS hES;have e0:=DI Au Bd CS;rw [hCl] at e0;refine Aa Kc fun C hC => ?_;refine Aj ?_;refine F8 2 (Gk Au Bd CS 0) rfl (by dsimp only; rw [Int.toNat_natCast]; exact e0) ?_
 refine Ai [0,3,4,5,6,26,27] [0,1,3] (fun k:Nat=>[(28,nA k)]) (fun k=>[(2,some ⟨true,false,43,7,Gk Au Bd CS k⟩)]) 4
  (fun k=>k≤A.cells.length∧IJ ES=IJ (ES.drop k)) (fun k=>A.cells.length - k) 0 ⟨Nat.zero_le _,rfl⟩ ?_
 rintro k ⟨hk,hE⟩;dsimp only [List.cons_append,List.nil_append] at hk hE ⊢;by_cases hlt:k<A.cells.length
 ·obtain ⟨x,hx⟩:∃ x,A.cells[k]? = some x:=⟨_,List.getElem?_eq_getElem hlt⟩
  have hxk:=A9 hx;have c2:=hcall x (List.mem_of_getElem? hx);have hset:=DY Au Bd CS k _ (hCg k x hx);have hget:=DX Au Bd CS k (by omega);have hll:=DW Au Bd CS k (by omega);rw [AU (hEg k x hx),IJ] at hE;generalize g x=r at c2 hset hE;obtain ⟨c,e⟩:=r;dsimp only at c2 hset hE;clear cl c1 hcall;by_cases he:e=0
  ·subst he
   rw [if_neg (fun h=>h rfl)] at hE;refine Aj ?_;exact ⟨k+1,by omega,⟨by omega,hE⟩,BI hC.m [] (by rw [← hset]; rfl)⟩
  ·rw [if_pos he] at hE
   rw [hE,if_pos he];refine Aj ?_;exact Am
 ·rw [List.drop_eq_nil_of_le (by omega),IJ] at hE
  rw [hE,if_neg (fun h=>h rfl)];rw [DZ Au Bd CS k (by omega),show CS.map Au=CS.map Av from by simp [Bv]];clear cl c1 hcall;refine Aj ?_;exact Am
theorem AjB (f:Int):∀ (d:Nat) (A:Al),Gb d A→Ae Tryz.prog 39 [nA f,.agg (Ao A)] (.tup [.agg (Ao (Acl f d A).1),nA (Acl f d A).2])
 | 0,A,hA=>AjA (p:=fun _=>False) _ f A hA.1 hA.2 fun x hx=>XZ _ f x hx fun h=>by
   rcases hx.2 with g|g|⟨_,_,_,_,_,g⟩
   ·have:=g.1; omega
   ·have:=g.1; omega
   ·exact g.elim
 | d+1,A,hA=>AjA (p:=Gb d) _ f A hA.1 hA.2 fun x hx=>XZ _ f x hx fun _=>AjB f d _ (Ji hx)
end Go.Proofs.YtjcolpcfcdkckaaGreat
