/- An abstract layer over the walk, part 7: own blocks handed to a callee for good. -/
import Derived.Defers
import Derived.Laws.Cover1
import Derived.Laws.Small
import Derived.Laws.Strings
import Derived.Lib.AppendZeros
import Derived.Recover
import Derived.WalkSpells
import Derived.WideShapes
import Derived.Test.YtjcolpcfcdkckaaGreatK03
import Derived.Test.YtjcolpcfcdkckaaGreatK04
namespace Go.Proofs.YtjcolpcfcdkckaaGreat
set_option linter.unusedVariables false
open Go.RowKit
theorem AcG {C:EH} {E:CK} {st:St} {a:Act} {w:World} (R:EP C E st a w) (id:Nat) {o:OB} (ho:hl st.h id=some o) :
 ∃ E',EP C E' { st with h:=(id,some { o with ro:=true })::st.h } a w∧∀ k,E'.live k↔E.live k:=by
 let E':CK:={ E with im:=fun b=>E.im b∨(E.live id∧Bz (E.val id)=some b) }
 have hlv:∀ k,E.live k→E'.live k∧E'.val k=E.val k∧E'.sz k=E.sz k:=fun k h=>⟨h,rfl,rfl⟩;have him:∀ b,E.im b→E'.im b:=fun b h=>.inl h;have hw:∀ b,E.im b→w.heap[b]? = w.heap[b]? := fun _ _=>rfl;refine ⟨E',⟨R.defers,R.size,fun n=>Rd.mono hlv him hw _ _ (R.tm n),⟨?_,?_,?_,?_⟩,R.nx,?_,R.ext,fun b hb=>.inl (R.imx b hb),?_,R.frm⟩,fun k=>Iff.rfl⟩
 ·intro k ob hk hh
  have old:∀ o',hl st.h k=some o'→G6 E' w k o':=fun o' ho'=>(R.heap.ob k o' hk ho').mono ⟨rfl,rfl⟩ hlv him hw (fun _ _=>rfl);rcases B2 hh with ⟨rfl,e⟩|⟨hne,p1⟩
  ·simp only [Option.some.injEq] at e; subst e
   exact old o ho
  ·exact old ob p1
 ·intro k k' ob ob' b hk hk' hh hh' hb hb'
  have e:∀ j oj,hl ((id,some { o with ro:=true })::st.h) j=some oj→∃ oj',hl st.h j=some oj':=fun j oj hj=>by
   rcases B2 hj with ⟨rfl,_⟩|⟨_,p⟩
   ·exact ⟨o,ho⟩
   ·exact ⟨oj,p⟩
  obtain ⟨q1,e1⟩:=e k ob hh;obtain ⟨q2,e2⟩:=e k' ob' hh';exact R.heap.apart k k' q1 q2 b hk hk' e1 e2 hb hb'
 ·intro k ob b hk hh hb
  rcases B2 hh with ⟨rfl,e⟩|⟨hne,p1⟩
  ·simp only [Option.some.injEq] at e; subst e
   exact ⟨fun _=>rfl,fun _=>.inr ⟨hk,hb⟩⟩
  ·rw [← R.heap.im k ob b hk p1 hb]
   constructor
   ·rintro (h|⟨h1,h2⟩)
    ·exact h
    ·exact absurd (R.heap.apart k id ob o b hk h1 p1 ho hb h2) hne
   ·exact fun h=>.inl h
 ·rintro b (h|⟨h1,h2⟩)
  ·exact R.heap.lt b h
  ·exact R.heap.blk_lt h1 ho h2
 ·intro k ob b hk hh hb
  rcases B2 hh with ⟨rfl,e⟩|⟨hne,p1⟩
  ·exact R.own k o b hk ho hb
  ·exact R.own k ob b hk p1 hb
 ·rintro b (h|⟨h1,h2⟩)
  ·exact R.imn b h
  ·exact .inr (R.own id o b h1 ho h2)
theorem BS.freeze {P:Program} {st:St} {i:AG} {v:AV} {rd:List Nat} {upd:Hp} (id:Nat) {o:OB} (ho:hl st.h id=some o) (h:BS P { st with h:=(id,some { o with ro:=true })::st.h } ⟨i,v,rd,upd,0⟩) :
 BS P st ⟨i,v,rd,upd++[(id,some { o with ro:=true })],0⟩:=by
 intro N ops op hlow C E a w sx hN R hag hh hnw K Q hK;have ho':hl sx.h id=some o:=by rw [hh id (.inr (by simp))]; exact ho
 obtain ⟨E1,R1,hlv⟩:=AcG R id ho'
 have hcons:∀ j,(hl sx.h j=hl st.h j)→hl ((id,some { o with ro:=true })::sx.h) j=hl ((id,some { o with ro:=true })::st.h) j:=fun j hj=>by
  have e1:∀ h:Hp,hl ((id,some { o with ro:=true })::h) j=if id=j then some { o with ro:=true } else hl h j:=fun h=>by
   by_cases hj':id=j
   ·subst hj'; simp [hl,look]
   ·have:Nat.beq id j=false:=by cases hb:Nat.beq id j; rfl; exact absurd (Nat.eq_of_beq_eq_true hb) hj'
    simp [hl,look,this,hj']
  rw [e1,e1,hj]
 refine h N ops op hlow C E1 a w { sx with h:=(id,some { o with ro:=true })::sx.h } hN R1 hag (fun j hj => ?_) (fun j hf=>absurd hf (Nat.not_lt_zero _)) K Q (fun v' w' E' hR' hl'=>hK v' w' E' ?_ (fun k hk => ?_))
 ·by_cases hid:j=id
  ·subst hid; simp [hl,look]
  ·refine hcons j (hh j ?_)
   rcases hj with hj|hj
   ·exact .inl hj
   ·exact .inr (by simp only [List.map_append,List.mem_append]; exact .inl hj)
 ·simp only [St.appx,List.append_assoc,List.singleton_append] at hR' ⊢
  exact hR'
 ·rcases hl' k hk with h|h
  ·exact .inl ((hlv k).1 h)
  ·exact .inr h
section
variable {P:Program} {st:St} {d:Option Nat} {g:Option (Nat × Bool)}
theorem Ag8 {sz:Nat} {x:Operand} {lo hi mx:Option Operand} {es:List (List AV)} {l h:Nat} (hg:BD st g) (hx:ev st x=.sl sz es) (hl:HJ st lo 0 l) (hh:HJ st hi es.length h) (hm:HJ st mx 0 h∧mx.isSome=true∧hi.isSome=true) (h1:l≤h) (h2:h≤es.length) :
 BS P st ⟨⟨d,g,.slice sz x lo hi mx⟩,.sl sz ((es.drop l).take (h - l)),[],[],0⟩ :=
  Bc [] hg fun o C E ac w sx hlow R hr hh'=>by
 have hv:=hr x (by simp [Ci.opds]);rw [hx] at hv;obtain ⟨a,cap,vs,hv,hle,hnil,hmax,hat,h1s,hrd⟩:=hv
 have vint:∀ {y:Option Operand} {dflt z:Int},(∀ o,y=some o→o ∈ (Ci.slice sz x lo hi mx).opds)→HJ st y dflt z→(y=none∧z=dflt)∨(∃ k,y.map ac.eval=some (.int k z)):=fun {y dflt z} hy hb=>by
  cases y with
  | none=>exact .inl ⟨rfl,hb⟩
  | some o =>
    obtain ⟨k,hk⟩:=hb;exact .inr ⟨k,by simp only [Option.map_some]; rw [AX (hr o (hy o rfl)) hk]⟩
 obtain ⟨dst,o,ty,pos,after,guard⟩:=o;obtain ⟨t,e,gg,rfl,het,hs⟩:=AL hlow;have hlo:=vint (y:=lo) (fun o ho=>by subst ho; simp [Ci.opds,oL]) hl;have hhi:=vint (y:=hi) (fun o ho=>by subst ho; simp [Ci.opds,oL]) hh
 obtain ⟨m,hmm,hhm,hmc,hmcap,hiso⟩:∃ m:Nat,(match mx.map ac.eval with|none=>m=cap|some v=>∃ k,v=.int k m∧m≤cap)∧h≤m∧(m=l→h=l)∧m≤cap∧((mx.map ac.eval).isSome=true→(hi.map ac.eval).isSome=true):=by
  obtain ⟨hb,h1',h2'⟩:=hm;rcases vint (y:=mx) (fun o ho=>by subst ho; simp [Ci.opds,oL]) hb with ⟨h0,_⟩|⟨k,hk⟩
  ·rw [h0] at h1'; cases h1'
  ·exact ⟨h,by rw [hk]; exact ⟨k,rfl,by omega⟩,Nat.le_refl _,fun e=>e,by omega,fun _=>by simpa using h2'⟩
 have hrun:=HU (P:=P) (w:=w) (a:=a) (len:=es.length) (cap:=cap) (lo:=lo.map ac.eval) (hi:=hi.map ac.eval) (mx:=mx.map ac.eval) (l:=l) (h:=h) (m:=m) (Dt het) hs hmm
  (by rcases hhi with ⟨h0,e⟩|⟨k,hk⟩
      ·rw [h0]; simp only [Option.map_none]; omega
      ·rw [hk]; exact ⟨k,rfl⟩)
  (by rcases hlo with ⟨h0,e⟩|⟨k,hk⟩
      ·rw [h0]; simp only [Option.map_none]; omega
      ·rw [hk]; exact ⟨k,rfl⟩) h1 hhm (by omega) hiso
 have hlen:((es.drop l).take (h - l)).length=h - l:=by simp; omega
 refine ⟨.slice (if m=l then a else a.map (·.add (l * sz))) (h - l) (m - l),by simp only [execOp,hv,Sem.run_bind,hrun,Result.andThen_ok,Sem.run_pure],_,_,_,by rw [hlen],by omega,?_,by omega,hat.part hrd l h h1 h2 (fun e=>(hmc e.symm)),fun u hu=>h1s u (List.mem_of_mem_drop (List.mem_of_mem_take hu)),(hrd.drop l).take (h - l)⟩;intro hn;by_cases hml:m=l
 ·omega
 ·rw [if_neg hml] at hn
  have ha:a=none:=by cases a<;>simp at hn ⊢
  have:=hnil ha
  omega
end
section
variable {P:Program} {st:St} {d:Option Nat} {g:Option (Nat × Bool)}
theorem Alk {x y:Operand} {k yk:IntKind} {a b:Int} (hg:BD st g) (hx:ev st x=.lit (.int k a)) (hy:ev st y=.lit (.int yk b)) (h0:0≤b):BS P st ⟨⟨d,g,.bin .shr x y⟩,.lit (.int k (a.fdiv (2 ^ (min b.toNat k.bits)))),[],[],0⟩ :=
 Bc [] hg fun o C E ac w sx hlow R hr hh=>by
  have h1:=AX (hr x (by simp [Ci.opds])) hx;have h2:=AX (hr y (by simp [Ci.opds])) hy;obtain ⟨dst,o,ty,pos,after,guard⟩:=o;obtain ⟨t,t2,rfl⟩:=AL hlow;refine ⟨_,?_,rfl⟩
  have hb:(binOp .shr t (.int k a) (.int yk b)).run P w=.ok (.int k (a.fdiv (2 ^ (min b.toNat k.bits)))) w:=by
   simp [binOp,Op.shift,Int.not_lt.2 h0]
  simp only [execOp,h1,h2,Sem.run_bind,FX,Result.andThen_ok,hb,Sem.run_pure]
theorem Alm {x y:Operand} {k yk:IntKind} {a b:Int} (hg:BD st g) (hx:ev st x=.lit (.int k a)) (hy:ev st y=.lit (.int yk b)) (h0:0≤b):BS P st ⟨⟨d,g,.bin .shl x y⟩,.lit (.int k (k.wrap (a * 2 ^ (min b.toNat k.bits)))),[],[],0⟩ :=
 Bc [] hg fun o C E ac w sx hlow R hr hh=>by
  have h1:=AX (hr x (by simp [Ci.opds])) hx;have h2:=AX (hr y (by simp [Ci.opds])) hy;obtain ⟨dst,o,ty,pos,after,guard⟩:=o;obtain ⟨t,t2,rfl⟩:=AL hlow;refine ⟨_,?_,rfl⟩
  have hb:(binOp .shl t (.int k a) (.int yk b)).run P w=.ok (.int k (k.wrap (a * 2 ^ (min b.toNat k.bits)))) w:=by
   simp [binOp,Op.shift,Int.not_lt.2 h0]
  simp only [execOp,h1,h2,Sem.run_bind,FX,Result.andThen_ok,hb,Sem.run_pure]
end
section
variable {P:Program} {tt:List (Nat × AV)} {hh:Hp} {nn dd:Nat} {g:Option (Nat × Bool)} {l:List AG} {acc:List SD} {K:List SD→St→Prop}
theorem Ys {fo:Operand} {args:List Operand} {f:FuncId} {fi ca avs avs':List AV} {r:AV} (id:Nat) {o:OB} (rd:List Nat) (hc:Ae P f avs' r) (h:RG P (⟨⟨some dd,g,.call fo args⟩,r,rd,[(id,some { o with ro:=true })],0⟩::acc) l ⟨(dd,r)::tt,(id,some { o with ro:=true })::hh,nn⟩ K) (hg:BD ⟨tt,hh,nn⟩ g:=by first|exact True.intro|rfl) (hf:ev ⟨tt,hh,nn⟩ fo=.fn f fi ca:=by rfl) (ho:hl hh id=some o:=by rfl) (hv:AR (C4 true (restr rd ((id,some { o with ro:=true })::hh)) 4) (fi++(args.map (ev ⟨tt,hh,nn⟩)++ca))=some avs:=by rfl) (hs:BE avs avs':=by (repeat (first|exact BE.nil|refine BE.cons (by first|exact Bl.refl _|exact Bl.nil _|exact Bl.any _|(refine Bl.agg ?_; repeat (first|exact BE.nil|refine BE.cons (by first|exact Bl.refl _|exact Bl.nil _) ?_))) ?_))):RG P acc (⟨some dd,g,.call fo args⟩::l) ⟨tt,hh,nn⟩ K:=RG.step (BS.freeze (upd:=[]) id ho (Qx (st:=⟨tt,(id,some { o with ro:=true })::hh,nn⟩) true rd hg hf hv hs hc rfl)) h
theorem AaB {sz:Nat} {x:Operand} {lo hi mx:Option Operand} {es:List (List AV)} (a b:Nat) (h1:a≤b) (h2:b≤es.length) (h:RG P (⟨⟨some dd,g,.slice sz x lo hi mx⟩,.sl sz ((es.drop a).take (b - a)),[],[],0⟩::acc) l ⟨(dd,.sl sz ((es.drop a).take (b - a)))::tt,hh,nn⟩ K)
 (hg:BD ⟨tt,hh,nn⟩ g:=by first|exact True.intro|rfl) (hx:ev ⟨tt,hh,nn⟩ x=.sl sz es:=by rfl) (hl:HJ ⟨tt,hh,nn⟩ lo 0 a:=by first|rfl|exact ⟨_,rfl⟩) (hh':HJ ⟨tt,hh,nn⟩ hi es.length b:=by first|rfl|exact ⟨_,rfl⟩) (hm:HJ ⟨tt,hh,nn⟩ mx 0 b∧mx.isSome=true∧hi.isSome=true:=by exact ⟨⟨_,rfl⟩,rfl,rfl⟩) :
 RG P acc (⟨some dd,g,.slice sz x lo hi mx⟩::l) ⟨tt,hh,nn⟩ K:=RG.step (Ag8 hg hx hl hh' hm h1 h2) h
theorem Aln {x y:Operand} {k yk:IntKind} {a b:Int} (v:Int) (h:RG P (⟨⟨some dd,g,.bin .shr x y⟩,.lit (.int k v),[],[],0⟩::acc) l ⟨(dd,.lit (.int k v))::tt,hh,nn⟩ K)
 (hg:BD ⟨tt,hh,nn⟩ g:=by first|exact True.intro|rfl) (hx:ev ⟨tt,hh,nn⟩ x=.lit (.int k a):=by rfl) (hy:ev ⟨tt,hh,nn⟩ y=.lit (.int yk b):=by rfl) (h0:0≤b:=by omega) (hv:a.fdiv (2 ^ (min b.toNat k.bits))=v:=by rfl) :
 RG P acc (⟨some dd,g,.bin .shr x y⟩::l) ⟨tt,hh,nn⟩ K:=by subst hv; exact RG.step (Alk hg hx hy h0) h
theorem Alo {x y:Operand} {k yk:IntKind} {a b:Int} (v:Int) (h:RG P (⟨⟨some dd,g,.bin .shl x y⟩,.lit (.int k v),[],[],0⟩::acc) l ⟨(dd,.lit (.int k v))::tt,hh,nn⟩ K)
 (hg:BD ⟨tt,hh,nn⟩ g:=by first|exact True.intro|rfl) (hx:ev ⟨tt,hh,nn⟩ x=.lit (.int k a):=by rfl) (hy:ev ⟨tt,hh,nn⟩ y=.lit (.int yk b):=by rfl) (h0:0≤b:=by omega) (hv:k.wrap (a * 2 ^ (min b.toNat k.bits))=v:=by rfl) :
 RG P acc (⟨some dd,g,.bin .shl x y⟩::l) ⟨tt,hh,nn⟩ K:=by subst hv; exact RG.step (Alm hg hx hy h0) h
end
theorem Lb (z:Int) (h1:0≤z) (h2:z≤4294967295):IntKind.u32.wrap z=z:=by
 simp only [IntKind.wrap,IntKind.bits,IntKind.signed];simp only [Bool.false_and,Bool.false_eq_true,if_false];exact Int.emod_eq_of_lt h1 (by omega)
structure Cut (es:List (List AV)) (a b:Nat) (es':List (List AV)):Prop where
 le:a≤b
 len:b≤es.length
 eq:(es.drop a).take (b - a)=es'
theorem Cut.ints {k:IntKind} {s:List Int} {a b:Nat} (h1:a≤b) (h2:b≤s.length):Cut (Ab k s) a b (Ab k ((s.drop a).take (b - a))) :=
 ⟨h1,by simpa [Ab] using h2,by simp [Ab,List.map_take,List.map_drop]⟩
theorem Cut.upto {k:IntKind} {s:List Int} {b:Nat} (h2:b≤s.length):Cut (Ab k s) 0 b (Ab k (s.take b)) :=
 ⟨Nat.zero_le _,by simpa [Ab] using h2,by simp [Ab,List.map_take]⟩
theorem Cut.from {k:IntKind} {s:List Int} {a:Nat} (h2:a≤s.length):Cut (Ab k s) a (Ab k s).length (Ab k (s.drop a)) :=
 ⟨by simpa [Ab] using h2,Nat.le_refl _,by
  rw [List.take_of_length_le (by simp)]; simp [Ab,List.map_drop]⟩
theorem Cut.map {α:Type} {f:α→List AV} {s:List α} {a b:Nat} (h1:a≤b) (h2:b≤s.length):Cut (s.map f) a b (((s.drop a).take (b - a)).map f) :=
 ⟨h1,by simpa using h2,by simp [List.map_take,List.map_drop]⟩
section
variable {P:Program} {tt:List (Nat × AV)} {hh:Hp} {nn dd:Nat} {g:Option (Nat × Bool)} {l:List AG} {acc acc':List SD} {l':List AG} {st':St}
theorem T7 {sz:Nat} {x:Operand} {lo hi:Option Operand} {es es':List (List AV)} {a b:Nat} (hg:BD ⟨tt,hh,nn⟩ g) (hx:ev ⟨tt,hh,nn⟩ x=.sl sz es) (hl:HJ ⟨tt,hh,nn⟩ lo 0 a) (hh':HJ ⟨tt,hh,nn⟩ hi es.length b) (hc:Cut es a b es')
 (h:Ap P (⟨⟨some dd,g,.slice sz x lo hi none⟩,.sl sz es',[],[],0⟩::acc) l ⟨(dd,.sl sz es')::tt,hh,nn⟩ acc' l' st'):Ap P acc (⟨some dd,g,.slice sz x lo hi none⟩::l) ⟨tt,hh,nn⟩ acc' l' st':=Ap.step' ((Aed hg hx hl hh' (.inl rfl) hc.le hc.len).cast (by rw [hc.eq])) h
end
theorem AlH {P:Program} {st:St} {d:Option Nat} {g:Option (Nat × Bool)} {t e:TypeId} {x y:Operand} {sz:Nat} {es:List (List AV)} (hu:P.underlying t=some (.slice e)) (hg:BD st g) (hx:ev st x=.sl sz es) (hn:0<es.length) (hy:ev st y=.lit (.slice none 0 0)):BS P st ⟨⟨d,g,.eqv t false x y⟩,.lit (.bool false),[],[],0⟩ :=
 Bc [] hg fun o C E ac w sx hlow R hr hh=>by
  have h1:=hr x (by simp [Ci.opds]);rw [hx] at h1;obtain ⟨a,cap,vs,h1,hle,hnil,_⟩:=h1;have h2:=AX (hr y (by simp [Ci.opds])) hy
  have ha:a.isNone=false:=by
   cases a with
   | none=>have:=hnil rfl; omega
   | some a=>rfl
  obtain ⟨dst,o,ty,pos,after,guard⟩:=o;obtain ⟨t2,rfl⟩:=AL hlow;refine ⟨.bool a.isNone,?_,by rw [ha]; rfl⟩;have hq:(eqGuard .eql t x y (.slice a es.length cap) (.slice none 0 0)).run P w=.ok () w:=rfl;simp only [execOp,h1,h2,Sem.run_bind,cond_false,hq,Result.andThen_ok,TL hu,Sem.run_pure]
section
variable {P:Program} {tt:List (Nat × AV)} {hh:Hp} {nn dd:Nat} {g:Option (Nat × Bool)} {l:List AG} {acc acc':List SD} {l':List AG} {st':St}
theorem AcH {t e:TypeId} {x y:Operand} {sz:Nat} {es:List (List AV)} (hg:BD ⟨tt,hh,nn⟩ g) (hx:ev ⟨tt,hh,nn⟩ x=.sl sz es) (hy:ev ⟨tt,hh,nn⟩ y=.lit (.slice none 0 0)) (hu:P.underlying t=some (.slice e)) (hn:0<es.length) (h:Ap P (⟨⟨some dd,g,.eqv t false x y⟩,.lit (.bool false),[],[],0⟩::acc) l ⟨(dd,.lit (.bool false))::tt,hh,nn⟩ acc' l' st'):Ap P acc (⟨some dd,g,.eqv t false x y⟩::l) ⟨tt,hh,nn⟩ acc' l' st':=Ap.step' (AlH hu hg hx hn hy) h
end
def gUn (st:St):Option (Nat × Bool)→Prop
 | none=>False
 | some (t,b)=>st.get t=.lit undef
theorem Wi {ops:Array Oper} {tmps:Array Value} {j t:Nat} (h:(ops[j]?).bind (·.dst)=some t) (hb:tmps.getD t undef=undef):yielded ops tmps j=none:=by
 unfold yielded;rw [h];simp only [Option.bind_some];rw [Array.getD_eq_getD_getElem?] at hb;cases ht:tmps[t]? with
 | none=>rfl
 | some v=>rw [ht] at hb; simp at hb; subst hb; rfl
theorem AaC {P:Program} {st:St} {i:AG} (hg:gNo st i.g∨gUn st i.g):BS P st ⟨i,.lit undef,[],[],0⟩:=by
 intro N ops o hlow C E a w sx hN R hag hh hnw K Q hK
 have hw:Region.wanted o (yielded ops a.tmps)=false:=by
  rcases hg with hg|hg
  ·exact RR hlow R hag hg
  ·obtain ⟨h1,h2,h3,h4⟩:=Bp hlow
   unfold Region.wanted;cases ho:o.guard with
   | none=>rw [ho] at h4; rw [show i.g=none from h4] at hg; exact hg.elim
   | some p =>
     obtain ⟨j,b⟩:=p;rw [ho] at h4;obtain ⟨t,ht,e⟩:=h4;rw [e] at hg
     have:=R.tm t
     rw [hag t (KM e),show st.get t=.lit undef from hg] at this;simp only [Wi ht this];cases b<;>rfl
 rw [if_neg (by rw [hw]; exact Bool.false_ne_true)];obtain ⟨h1,h2,h3,h4⟩:=Bp hlow;refine hK undef w E ?_ (fun id h=>.inl h)
 have:=R.put (d:=o.dst) (fun k hk=>by rw [hN]; exact h2 k hk) (v:=.lit undef) (u:=undef) rfl
 simp only [St.appx,List.nil_append];rw [h1];exact this
section
variable {P:Program} {tt:List (Nat × AV)} {hh:Hp} {nn dd:Nat} {g:Option (Nat × Bool)} {l:List AG} {acc acc':List SD} {l':List AG} {st':St}
theorem Ag9 {o:Ci} (hg:gNo ⟨tt,hh,nn⟩ g) (h:Ap P (⟨⟨some dd,g,o⟩,.lit undef,[],[],0⟩::acc) l ⟨(dd,.lit undef)::tt,hh,nn⟩ acc' l' st'):Ap P acc (⟨some dd,g,o⟩::l) ⟨tt,hh,nn⟩ acc' l' st':=Ap.step' (AaC (.inl hg)) h
theorem Aha {o:Ci} (hg:gUn ⟨tt,hh,nn⟩ g) (h:Ap P (⟨⟨some dd,g,o⟩,.lit undef,[],[],0⟩::acc) l ⟨(dd,.lit undef)::tt,hh,nn⟩ acc' l' st'):Ap P acc (⟨some dd,g,o⟩::l) ⟨tt,hh,nn⟩ acc' l' st':=Ap.step' (AaC (.inr hg)) h
end
def HV (h:Hp) (avs:List AV):List Nat:=avs.flatMap (OK h 4)
theorem AlI {P:Program} {w:World} {ρ:Operand→Value} {mx:Bool} {x y:Operand} {ts:Array TypeId} {dst:Option Tmp} {ty:TypeId} {pos:String} {after:Array Edge} {guard:Option (Nat × Bool)} {k:IntKind} {a b:Int} (hx:ρ x=.int k a) (hy:ρ y=.int k b) :
 (execOp ρ ⟨dst,.call { callee:=.builtin (bif mx then .max else .min),args := #[x,y],argTypes:=ts },ty,pos,after,guard⟩).run P w=.ok (.value (.int k (bif mx then (if b > a then b else a) else (if b<a then b else a)))) w:=by
 have h1:=Go.run_max_int2 (P:=P) (w:=w) ts ty k k a b;have h2:=Go.run_min_int2 (P:=P) (w:=w) ts ty k k a b;cases mx<;>simp only [execOp,resolve,Sem.run_bind,Sem.run_pure,Result.andThen_ok,invoke,builtin,List.map_toArray,List.map_cons,List.map_nil,hx,hy,cond_true,cond_false,h1,h2]
theorem AlJ {P:Program} {st:St} {d:Option Nat} {g:Option (Nat × Bool)} {mx:Bool} {x y:Operand} {k:IntKind} {a b:Int} (hg:BD st g) (hx:ev st x=.lit (.int k a)) (hy:ev st y=.lit (.int k b)):BS P st ⟨⟨d,g,.mm mx x y⟩,.lit (.int k (bif mx then (if b > a then b else a) else (if b<a then b else a))),[],[],0⟩ :=
 Bc [] hg fun o C E ac w sx hlow R hr hh=>by
  have h1:=AX (hr x (by simp [Ci.opds])) hx;have h2:=AX (hr y (by simp [Ci.opds])) hy;obtain ⟨dst,o,ty,pos,after,guard⟩:=o;obtain ⟨t,rfl⟩:=AL hlow;exact ⟨_,AlI h1 h2,rfl⟩
theorem AmX {P:Program} {st:St} {d:Option Nat} {g:Option (Nat × Bool)} {x y z:Operand} {k:IntKind} {a b c:Int} (hg:BD st g) (hx:ev st x=.lit (.int k a)) (hy:ev st y=.lit (.int k b)) (hz:ev st z=.lit (.int k c)):BS P st ⟨⟨d,g,.mx3 x y z⟩,.lit (.int k (if c > (if b > a then b else a) then c else (if b > a then b else a))),[],[],0⟩ :=
 Bc [] hg fun o C E ac w sx hlow R hr hh=>by
  have h1:=AX (hr x (by simp [Ci.opds])) hx;have h2:=AX (hr y (by simp [Ci.opds])) hy;have h3:=AX (hr z (by simp [Ci.opds])) hz;obtain ⟨dst,o,ty,pos,after,guard⟩:=o;obtain ⟨t,rfl⟩:=AL hlow;have h4:=Go.run_max_int3 (P:=P) (w:=w) t ty k k k a b c;exact ⟨_,by simp only [execOp,resolve,Sem.run_bind,Sem.run_pure,Result.andThen_ok,invoke,builtin,List.map_toArray,List.map_cons,List.map_nil,h1,h2,h3,h4],rfl⟩
section
variable {P:Program} {tt:List (Nat × AV)} {hh:Hp} {nn dd:Nat} {g:Option (Nat × Bool)} {l:List AG} {acc acc':List SD} {l':List AG} {st':St}
theorem Ahb {x y:Operand} {k:IntKind} {a b v:Int} (hg:BD ⟨tt,hh,nn⟩ g) (hx:ev ⟨tt,hh,nn⟩ x=.lit (.int k a)) (hy:ev ⟨tt,hh,nn⟩ y=.lit (.int k b)) (hv:(b≤a∧v=a)∨(a<b∧v=b)) (h:Ap P (⟨⟨some dd,g,.mm true x y⟩,.lit (.int k v),[],[],0⟩::acc) l ⟨(dd,.lit (.int k v))::tt,hh,nn⟩ acc' l' st'):Ap P acc (⟨some dd,g,.mm true x y⟩::l) ⟨tt,hh,nn⟩ acc' l' st' :=
 Ap.step' ((AlJ hg hx hy).cast (by simp only [cond_true]; rcases hv with ⟨h1,rfl⟩|⟨h1,rfl⟩; rw [if_neg (by omega)]; rw [if_pos h1])) h
theorem Ahc {x y z:Operand} {k:IntKind} {a b c v:Int} (hg:BD ⟨tt,hh,nn⟩ g) (hx:ev ⟨tt,hh,nn⟩ x=.lit (.int k a)) (hy:ev ⟨tt,hh,nn⟩ y=.lit (.int k b)) (hz:ev ⟨tt,hh,nn⟩ z=.lit (.int k c)) (hv:max (max a b) c=v) (h:Ap P (⟨⟨some dd,g,.mx3 x y z⟩,.lit (.int k v),[],[],0⟩::acc) l ⟨(dd,.lit (.int k v))::tt,hh,nn⟩ acc' l' st'):Ap P acc (⟨some dd,g,.mx3 x y z⟩::l) ⟨tt,hh,nn⟩ acc' l' st' :=
 Ap.step' ((AmX hg hx hy hz).cast (by subst hv; congr 2; (repeat' split)<;>omega)) h
theorem Yt {fo:Operand} {args:List Operand} {f:FuncId} {fi ca avs avs':List AV} {r:AV} {id:Nat} {o:OB} (hg:BD ⟨tt,hh,nn⟩ g) (hf:ev ⟨tt,hh,nn⟩ fo=.fn f fi ca) (hid:HV hh (args.map (ev ⟨tt,hh,nn⟩))=[id]) (ho:hl hh id=some o)
 (hv:AR (C4 true (restr [id] ((id,some { o with ro:=true })::hh)) 4) (fi++(args.map (ev ⟨tt,hh,nn⟩)++ca))=some avs) (hc:Ae P f avs' r) (hs:BE avs avs') (h:Ap P (⟨⟨some dd,g,.call fo args⟩,r,[id],[(id,some { o with ro:=true })],0⟩::acc) l ⟨(dd,r)::tt,(id,some { o with ro:=true })::hh,nn⟩ acc' l' st'):Ap P acc (⟨some dd,g,.call fo args⟩::l) ⟨tt,hh,nn⟩ acc' l' st' :=
  Ap.step' (BS.freeze (upd:=[]) id ho (Qx (st:=⟨tt,(id,some { o with ro:=true })::hh,nn⟩) true [id] hg hf hv hs hc rfl)) h
end
section
variable {P:Program} {tt:List (Nat × AV)} {hh:Hp} {nn dd:Nat} {g:Option (Nat × Bool)} {l:List AG} {acc acc':List SD} {l':List AG} {st':St}
theorem Yu {fo:Operand} {args:List Operand} {f:FuncId} {fi ca avs:List AV} {r:AV} (hg:BD ⟨tt,hh,nn⟩ g) (hf:ev ⟨tt,hh,nn⟩ fo=.fn f fi ca) (hv:AR (C4 true (restr [] hh) 4) (fi++(args.map (ev ⟨tt,hh,nn⟩)++ca))=some avs) (hc:Ae P f avs r) (h:Ap P (⟨⟨some dd,g,.call fo args⟩,r,[],[],0⟩::acc) l ⟨(dd,r)::tt,hh,nn⟩ acc' l' st'):Ap P acc (⟨some dd,g,.call fo args⟩::l) ⟨tt,hh,nn⟩ acc' l' st':=Yn true [] hg hf hv hc (BE.refl _) rfl h
theorem Yv {fo:Operand} {args:List Operand} {f:FuncId} {fi ca avs avs':List AV} {r:AV} (hg:BD ⟨tt,hh,nn⟩ g) (hf:ev ⟨tt,hh,nn⟩ fo=.fn f fi ca) (hv:AR (C4 true (restr [] hh) 4) (fi++(args.map (ev ⟨tt,hh,nn⟩)++ca))=some avs) (hc:Ae P f avs' r) (hs:BE avs avs') (h:Ap P (⟨⟨some dd,g,.call fo args⟩,r,[],[],0⟩::acc) l ⟨(dd,r)::tt,hh,nn⟩ acc' l' st'):Ap P acc (⟨some dd,g,.call fo args⟩::l) ⟨tt,hh,nn⟩ acc' l' st':=Yn true [] hg hf hv hc hs rfl h
theorem Yw {fo:Operand} {args:List Operand} {f:FuncId} {fi ca avs:List AV} {r:AV} (hg:BD ⟨tt,hh,nn⟩ g) (hf:ev ⟨tt,hh,nn⟩ fo=.fn f fi ca) (hv:AR (C4 false (restr (HV hh (args.map (ev ⟨tt,hh,nn⟩))) hh) 4) (fi++(args.map (ev ⟨tt,hh,nn⟩)++ca))=some avs) (hc:Ae P f avs r) (hr:Aan r=true) (h:Ap P (⟨⟨some dd,g,.call fo args⟩,r,HV hh (args.map (ev ⟨tt,hh,nn⟩)),[],0⟩::acc) l ⟨(dd,r)::tt,hh,nn⟩ acc' l' st'):Ap P acc (⟨some dd,g,.call fo args⟩::l) ⟨tt,hh,nn⟩ acc' l' st':=Yn false _ hg hf hv hc (BE.refl _) hr h
theorem Yx {fo:Operand} {args:List Operand} {f:FuncId} {fi ca avs:List AV} {r:AV} (hg:BD ⟨tt,hh,nn⟩ g) (hf:ev ⟨tt,hh,nn⟩ fo=.fn f fi ca) (hv:AR (C4 true (restr (HV hh (args.map (ev ⟨tt,hh,nn⟩))) hh) 4) (fi++(args.map (ev ⟨tt,hh,nn⟩)++ca))=some avs) (hc:Ae P f avs r) (h:Ap P (⟨⟨some dd,g,.call fo args⟩,r,HV hh (args.map (ev ⟨tt,hh,nn⟩)),[],0⟩::acc) l ⟨(dd,r)::tt,hh,nn⟩ acc' l' st'):Ap P acc (⟨some dd,g,.call fo args⟩::l) ⟨tt,hh,nn⟩ acc' l' st':=Yn true _ hg hf hv hc (BE.refl _) rfl h
theorem T8 {x y:Operand} {a b:Int} (hg:BD ⟨tt,hh,nn⟩ g) (hx:ev ⟨tt,hh,nn⟩ x=.lit (.int .u64 a)) (hy:ev ⟨tt,hh,nn⟩ y=.lit (.int .u64 b)) (h1:0≤a+b) (h2:a+b≤18446744073709551615) (h:Ap P (⟨⟨some dd,g,.bin .add x y⟩,.lit (.int .u64 (a+b)),[],[],0⟩::acc) l ⟨(dd,.lit (.int .u64 (a+b)))::tt,hh,nn⟩ acc' l' st'):Ap P acc (⟨some dd,g,.bin .add x y⟩::l) ⟨tt,hh,nn⟩ acc' l' st':=Ap.step' ((Eo hg hx hy rfl).cast (congrArg (fun n=>AV.lit (.int .u64 n)) (IntWalk.u64_in _ (by omega)))) h
theorem T9 {x y:Operand} {a b:Int} (hg:BD ⟨tt,hh,nn⟩ g) (hx:ev ⟨tt,hh,nn⟩ x=.lit (.int .u64 a)) (hy:ev ⟨tt,hh,nn⟩ y=.lit (.int .u64 b)) (h1:0≤a - b) (h2:a - b≤18446744073709551615) (h:Ap P (⟨⟨some dd,g,.bin .sub x y⟩,.lit (.int .u64 (a - b)),[],[],0⟩::acc) l ⟨(dd,.lit (.int .u64 (a - b)))::tt,hh,nn⟩ acc' l' st'):Ap P acc (⟨some dd,g,.bin .sub x y⟩::l) ⟨tt,hh,nn⟩ acc' l' st':=Ap.step' ((Eo hg hx hy rfl).cast (congrArg (fun n=>AV.lit (.int .u64 n)) (IntWalk.u64_in _ (by omega)))) h
theorem Ua {x y:Operand} {a b:Int} (hg:BD ⟨tt,hh,nn⟩ g) (hx:ev ⟨tt,hh,nn⟩ x=.lit (.int .u64 a)) (hy:ev ⟨tt,hh,nn⟩ y=.lit (.int .u64 b)) (h1:0≤a * b) (h2:a * b≤18446744073709551615) (h:Ap P (⟨⟨some dd,g,.bin .mul x y⟩,.lit (.int .u64 (a * b)),[],[],0⟩::acc) l ⟨(dd,.lit (.int .u64 (a * b)))::tt,hh,nn⟩ acc' l' st'):Ap P acc (⟨some dd,g,.bin .mul x y⟩::l) ⟨tt,hh,nn⟩ acc' l' st':=Ap.step' ((Eo hg hx hy rfl).cast (congrArg (fun n=>AV.lit (.int .u64 n)) (IntWalk.u64_in _ ⟨h1,h2⟩))) h
theorem Ub {x y:Operand} {a b:Int} (hg:BD ⟨tt,hh,nn⟩ g) (hx:ev ⟨tt,hh,nn⟩ x=.lit (.int .u64 a)) (hy:ev ⟨tt,hh,nn⟩ y=.lit (.int .u64 b)) (h0:0≤a) (h1:a≤18446744073709551615) (h2:0<b) (h:Ap P (⟨⟨some dd,g,.bin .quo x y⟩,.lit (.int .u64 (a / b)),[],[],0⟩::acc) l ⟨(dd,.lit (.int .u64 (a / b)))::tt,hh,nn⟩ acc' l' st'):Ap P acc (⟨some dd,g,.bin .quo x y⟩::l) ⟨tt,hh,nn⟩ acc' l' st':=Ap.step' ((AgR hg hx hy (by omega)).cast (congrArg (fun n=>AV.lit (.int .u64 n)) (by rw [Int.tdiv_eq_ediv_of_nonneg h0]; exact IntWalk.u64_in _ ⟨Int.ediv_nonneg h0 (by omega),Int.le_trans (Int.ediv_le_self _ h0) h1⟩))) h
theorem Uc {x y:Operand} {a b:Int} (hg:BD ⟨tt,hh,nn⟩ g) (hx:ev ⟨tt,hh,nn⟩ x=.lit (.int .i64 a)) (hy:ev ⟨tt,hh,nn⟩ y=.lit (.int .i64 b)) (h0:0≤a) (h1:a≤9223372036854775807) (h2:0<b) (h:Ap P (⟨⟨some dd,g,.bin .quo x y⟩,.lit (.int .i64 (a / b)),[],[],0⟩::acc) l ⟨(dd,.lit (.int .i64 (a / b)))::tt,hh,nn⟩ acc' l' st'):Ap P acc (⟨some dd,g,.bin .quo x y⟩::l) ⟨tt,hh,nn⟩ acc' l' st':=Ap.step' ((AgR hg hx hy (by omega)).cast (congrArg (fun n=>AV.lit (.int .i64 n)) (by rw [Int.tdiv_eq_ediv_of_nonneg h0]; exact IntWalk.i64_in _ ⟨Int.le_trans (by omega) (Int.ediv_nonneg h0 (by omega)),Int.le_trans (Int.ediv_le_self _ h0) h1⟩))) h
theorem AcI {x y:Operand} {k:IntKind} {a b:Int} (hg:BD ⟨tt,hh,nn⟩ g) (hx:ev ⟨tt,hh,nn⟩ x=.lit (.int k a)) (hy:ev ⟨tt,hh,nn⟩ y=.lit (.int k b)) (h0:0≤a) (h2:0<b) (h:Ap P (⟨⟨some dd,g,.bin .rem x y⟩,.lit (.int k (a % b)),[],[],0⟩::acc) l ⟨(dd,.lit (.int k (a % b)))::tt,hh,nn⟩ acc' l' st'):Ap P acc (⟨some dd,g,.bin .rem x y⟩::l) ⟨tt,hh,nn⟩ acc' l' st':=Ap.step' ((Ali hg hx hy (by omega)).cast (congrArg (fun n=>AV.lit (.int k n)) (Int.tmod_eq_emod_of_nonneg h0))) h
theorem QP {x:Operand} {k0:IntKind} {a:Int} (hg:BD ⟨tt,hh,nn⟩ g) (hx:ev ⟨tt,hh,nn⟩ x=.lit (.int k0 a)) (h1:0≤a) (h2:a≤18446744073709551615) (h:Ap P (⟨⟨some dd,g,.conv .u64 x⟩,.lit (.int .u64 a),[],[],0⟩::acc) l ⟨(dd,.lit (.int .u64 a))::tt,hh,nn⟩ acc' l' st'):Ap P acc (⟨some dd,g,.conv .u64 x⟩::l) ⟨tt,hh,nn⟩ acc' l' st':=Ap.step' ((TK hg hx).cast (congrArg (fun n=>AV.lit (.int .u64 n)) (IntWalk.u64_in _ ⟨h1,h2⟩))) h
theorem QQ {x:Operand} {k0:IntKind} {a:Int} (hg:BD ⟨tt,hh,nn⟩ g) (hx:ev ⟨tt,hh,nn⟩ x=.lit (.int k0 a)) (h1:0≤a) (h2:a≤4294967295) (h:Ap P (⟨⟨some dd,g,.conv .u32 x⟩,.lit (.int .u32 a),[],[],0⟩::acc) l ⟨(dd,.lit (.int .u32 a))::tt,hh,nn⟩ acc' l' st'):Ap P acc (⟨some dd,g,.conv .u32 x⟩::l) ⟨tt,hh,nn⟩ acc' l' st':=Ap.step' ((TK hg hx).cast (congrArg (fun n=>AV.lit (.int .u32 n)) (Lb _ h1 h2))) h
theorem QR {e:TypeId} {sz by_ id:Nat} {z:List Value} {s x:Operand} {ob:OB} {av:AV} {news:List (List AV)} (hg:BD ⟨tt,hh,nn⟩ g) (hs:ev ⟨tt,hh,nn⟩ s=.own id) (ho:hl hh id=some ob) (hr:ob.row=true) (hro:ob.ro=false) (hsz:ob.sz=sz) (he:ob.e=e) (hx:ev ⟨tt,hh,nn⟩ x=av) (hn:G9 (restr (HV hh [av]) hh) sz av=some news) (hb:(ob.es.length+news.length) * by_≤140737488355328) (h:Ap P (⟨⟨some dd,g,.append e sz by_ z s x⟩,.own nn,HV hh [av],[(nn,some ⟨true,false,e,sz,ob.es++news⟩),(id,none)],1⟩::acc) l ⟨(dd,.own nn)::tt,(nn,some ⟨true,false,e,sz,ob.es++news⟩)::(id,none)::hh,nn+1⟩ acc' l' st'):Ap P acc (⟨some dd,g,.append e sz by_ z s x⟩::l) ⟨tt,hh,nn⟩ acc' l' st':=OW _ hg hs ho hr hro hsz he hx hn hb h
end
theorem Alp {P:Program} {acc:List SD} {l:List AG} {st:St} {acc':List SD} {l':List AG} {st':St} (hR:Ap P acc l st acc' l' st':=by
 ((repeat (first
   | apply Yb (by first|exact True.intro|rfl) (by exact rfl)
   | apply Yc (by first|exact True.intro|rfl) (by exact rfl)
   | apply Yd (by first|exact True.intro|rfl) (by exact rfl)
   | apply Ye (by first|exact True.intro|rfl) (by exact rfl)
   | apply Yf (by first|exact True.intro|rfl) (by exact rfl)
   | apply Yg (by first|exact True.intro|rfl) (by exact rfl)
   | apply Ag9 (by exact rfl)
   | apply Aha (by exact rfl)
   | apply AjW (by exact rfl)
   | apply S6 (by first|exact True.intro|rfl) (by exact rfl) (by exact rfl) (by omega) (by omega)
   | apply S7 (by first|exact True.intro|rfl) (by exact rfl) (by exact rfl) (by omega) (by omega)
   | apply AdU (by first|exact True.intro|rfl) (by exact rfl) (by exact rfl) (by omega)
   | apply AdV (by first|exact True.intro|rfl) (by exact rfl) (by exact rfl) (by omega)
   | apply AdW (by first|exact True.intro|rfl) (by exact rfl) (by exact rfl) (by omega)
   | apply AdX (by first|exact True.intro|rfl) (by exact rfl) (by exact rfl) (by omega)
   | apply AdY (by first|exact True.intro|rfl) (by exact rfl) (by exact rfl) (by omega)
   | apply AdZ (by first|exact True.intro|rfl) (by exact rfl) (by exact rfl) (by omega)
   | apply Ad0 (by first|exact True.intro|rfl) (by exact rfl) (by exact rfl) (by omega)
   | apply Ad1 (by first|exact True.intro|rfl) (by exact rfl) (by exact rfl) (by omega)
   | apply Ad2 (by first|exact True.intro|rfl) (by exact rfl) (by exact rfl) (by omega)
   | apply Ad3 (by first|exact True.intro|rfl) (by exact rfl) (by exact rfl) (by omega)
   | apply Ad4 (by first|exact True.intro|rfl) (by exact rfl) (by exact rfl) (by omega)
   | apply Ad5 (by first|exact True.intro|rfl) (by exact rfl) (by exact rfl) (by omega)
   | apply T8 (by first|exact True.intro|rfl) (by exact rfl) (by exact rfl) (by omega) (by omega)
   | apply T9 (by first|exact True.intro|rfl) (by exact rfl) (by exact rfl) (by omega) (by omega)
   | apply Ua (by first|exact True.intro|rfl) (by exact rfl) (by exact rfl) (by omega) (by omega)
   | apply Ub (by first|exact True.intro|rfl) (by exact rfl) (by exact rfl) (by omega) (by omega) (by omega)
   | apply Uc (by first|exact True.intro|rfl) (by exact rfl) (by exact rfl) (by omega) (by omega) (by omega)
   | apply AcI (by first|exact True.intro|rfl) (by exact rfl) (by exact rfl) (by omega) (by omega)
   | apply Yh (by first|exact True.intro|rfl) (by exact rfl) (by exact rfl) (by first|assumption|omega)
   | apply QP (by first|exact True.intro|rfl) (by exact rfl) (by omega) (by omega)
   | apply QQ (by first|exact True.intro|rfl) (by exact rfl) (by omega) (by omega)
   | apply Ag1 (by first|exact True.intro|rfl) (by exact rfl) (by exact rfl) (by exact rfl)
   | apply Ag2 (by first|exact True.intro|rfl) (by exact rfl) (by exact rfl) (by omega)
   | apply Ag3 (by first|exact True.intro|rfl) (by exact rfl) (by exact rfl) (by omega)
   | apply Yi (by first|exact True.intro|rfl) (by exact rfl) (by exact rfl) (by exact rfl)
   | apply Yj (by first|exact True.intro|rfl) (by exact rfl)
   | apply Yk (by first|exact True.intro|rfl) (by exact rfl)
   | apply Ad6 (by first|exact True.intro|rfl) (by exact rfl)
   | apply OQ (by first|exact True.intro|rfl) (by exact rfl) (by exact rfl)
   | apply OR (by first|exact True.intro|rfl) (by exact rfl) (by exact rfl)
   | apply OS (by first|exact True.intro|rfl) (by exact rfl) (by omega) (by omega)
   | apply AcE (by first|exact True.intro|rfl) (by exact rfl)
   | apply S8 (by first|exact True.intro|rfl) (by exact rfl)
   | apply OT (by first|exact True.intro|rfl) (by exact rfl)
   | apply GI (by first|exact True.intro|rfl) (by exact rfl) (by exact rfl) (by exact rfl) (by exact rfl)
   | apply Jv (by first|exact True.intro|rfl) (by exact rfl) (by exact rfl) (by exact rfl) (by exact rfl)
   | apply Jw (by first|exact True.intro|rfl) (by exact rfl) (by exact rfl) (by exact rfl) (by exact rfl)
   | apply IT (by first|exact True.intro|rfl) (by exact rfl) (by first|assumption|rfl) (by exact rfl)
   | apply OU (by first|exact True.intro|rfl) (by exact rfl) (by first|assumption|rfl) (by exact rfl)
   | apply LP (by first|exact True.intro|rfl) (by exact rfl) (by exact rfl)
   | apply OV (by first|exact True.intro|rfl) (by exact rfl) (by exact rfl)
   | apply Aea (by first|exact True.intro|rfl) (by exact rfl) (by first|assumption|rfl)
   | apply Yl (by first|exact True.intro|rfl) (by exact rfl) (by exact rfl) (by exact rfl) (by first|assumption|rfl)
   | apply LQ (by first|exact True.intro|rfl) (by exact rfl) (by exact rfl) (by omega) (by first|omega|assumption)
   | apply Ha (by first|exact True.intro|rfl) (by exact rfl) (by exact rfl) (by exact rfl) (by exact rfl) (by exact rfl) (by omega) (by first|omega|(dsimp only; omega))
   | apply Ym (by first|exact True.intro|rfl)
   | apply S9 (by first|exact True.intro|rfl)
   | apply Aeb (by first|exact True.intro|rfl) (by exact rfl) (by exact rfl) (by exact rfl)
   | apply Ta (by first|exact True.intro|rfl) (by exact rfl)
   | apply IU (by first|exact True.intro|rfl) (by exact rfl) (by exact rfl) (by exact rfl) (by exact rfl) (by exact rfl) (by exact rfl) (by exact rfl) (by exact rfl) (by exact rfl) (by exact rfl)
   | apply Yu (by first|exact True.intro|rfl) (by exact rfl) (by exact rfl) (by assumption)
   | apply Yv (by first|exact True.intro|rfl) (by exact rfl) (by exact rfl) (by assumption) (by (repeat (first|exact BE.nil|refine BE.cons (by first|exact Bl.refl _|exact Bl.nil _|exact Bl.any _|(refine Bl.agg ?_; repeat (first|exact BE.nil|refine BE.cons (by first|exact Bl.refl _|exact Bl.nil _) ?_))) ?_)))
   | apply Yw (by first|exact True.intro|rfl) (by exact rfl) (by exact rfl) (by assumption) (by exact rfl)
   | apply Yx (by first|exact True.intro|rfl) (by exact rfl) (by exact rfl) (by assumption)
   | apply Yt (by first|exact True.intro|rfl) (by exact rfl) (by exact rfl) (by exact rfl) (by exact rfl) (by assumption) (by (repeat (first|exact BE.nil|refine BE.cons (by first|exact Bl.refl _|exact Bl.nil _|exact Bl.any _|(refine Bl.agg ?_; repeat (first|exact BE.nil|refine BE.cons (by first|exact Bl.refl _|exact Bl.nil _) ?_))) ?_)))
   | apply Ahb (by first|exact True.intro|rfl) (by exact rfl) (by exact rfl) (by first|exact .inl ⟨by omega,Eq.refl _⟩|exact .inr ⟨by omega,Eq.refl _⟩)
   | apply Ahc (by first|exact True.intro|rfl) (by exact rfl) (by exact rfl) (by exact rfl) (by first|assumption|exact Eq.refl _)
   | apply TQ [] (by first|exact True.intro|rfl) (by exact rfl) (by exact rfl) (by exact rfl) (by exact rfl) (by first|assumption|rfl) (by exact rfl) (by exact rfl) (by exact rfl) (by exact rfl) (by exact rfl) (by exact rfl)
   | apply TP [] (by first|exact True.intro|rfl) (by exact rfl) (by exact rfl) (by exact rfl) (by exact rfl)
   | apply OW [] (by first|exact True.intro|rfl) (by exact rfl) (by exact rfl) (by exact rfl) (by exact rfl) (by exact rfl) (by exact rfl) (by exact rfl) (by exact rfl) (by first|omega|assumption|(dsimp only; omega)|(simp only [List.length_append,List.length_cons,List.length_nil,List.length_map,List.length_replicate,List.length_take,List.length_drop,Ep,Ab]; omega))
   | apply Qy [] (by first|exact True.intro|rfl) (by exact rfl) (by exact rfl) (by exact rfl) (by first|omega|assumption|(dsimp only; omega)|(simp only [List.length_append,List.length_cons,List.length_nil,List.length_map,List.length_replicate,List.length_take,List.length_drop,Ep,Ab]; omega))
   | apply QR (by first|exact True.intro|rfl) (by exact rfl) (by exact rfl) (by exact rfl) (by exact rfl) (by exact rfl) (by exact rfl) (by exact rfl) (by exact rfl) (by first|omega|assumption|(dsimp only; omega)|(simp only [List.length_append,List.length_cons,List.length_nil,List.length_map,List.length_replicate,List.length_take,List.length_drop,Ep,Ab]; omega))
   | apply T7 (by first|exact True.intro|rfl) (by exact rfl) (by first|exact Eq.refl _|exact ⟨_,Eq.refl _⟩) (by first|exact Eq.refl _|exact ⟨_,Eq.refl _⟩) (by assumption)
   | apply Ha (by first|exact True.intro|rfl) (by exact rfl) (by exact rfl) (by exact rfl) (by exact rfl) (by exact rfl) (by omega) (by simp only [List.length_set,List.length_append,List.length_cons,List.length_nil,List.length_replicate]; omega)
   | apply GI (by first|exact True.intro|rfl) (by exact rfl) (by exact rfl) (by assumption) (by exact rfl)
   | apply Jv (by first|exact True.intro|rfl) (by exact rfl) (by exact rfl) (by assumption) (by exact rfl)
   | apply Jw (by first|exact True.intro|rfl) (by exact rfl) (by exact rfl) (by assumption) (by exact rfl)
   | apply AcH (by first|exact True.intro|rfl) (by exact rfl) (by exact rfl) (by assumption) (by first|assumption|omega)
   | apply AcF (by first|exact True.intro|rfl) (by exact rfl) (by exact rfl) (by omega) (by omega) (by omega))); exact Ap.refl _ _ _)):Ap P acc l st acc' l' st':=hR
theorem BP {P:Program} {acc:List SD} {l:List AG} {st:St} {acc':List SD} {l':List AG} {st':St} {K:List SD→St→Prop} (h:RG P acc' l' st' K) (hR:Ap P acc l st acc' l' st':=by exact Alp):RG P acc l st K:=HT hR h
theorem AmY {P:Program} {C:EH} {Q:Exit→St→Prop} {st:St} {d:Bool} {l:List AG} {free:List (Nat × Nat)} {acc:List SD} {st':St} (hQ:Q .normal st') (hR:Ap P [] l st acc [] st':=by exact Alp) (hi:(bif d then GG acc.reverse free else true)=true:=by rfl):AW P C (.ops d l free) Q st:=AH (HT hR (Ak ⟨hi,hQ⟩))
theorem Af {P:Program} {C:EH} {Q:Exit→St→Prop} {st:St} {c:Bi} {G:Prop} (hG:G) (h:AjX G→AW P C c Q st:=by
 (intro hG; repeat (first|refine Gh ?_|refine OH ?_|refine OF ?_|refine S2 ?_|refine X7 ?_|refine Ge rfl ?_|refine IP rfl ?_|refine TD rfl ?_|refine TE rfl ?_|refine AmY ?_)
  exact hG.out)):AW P C c Q st:=h ⟨hG⟩
section
variable {P:Program} {C:EH} {Q:Exit→St→Prop} {st:St}
def AaD (ren:List (Nat × Nat)) (h:Hp):List (Nat × Nat):=h.map fun p=>((match look ren p.1 with|some o=>o|none=>p.1),p.1)
def AaE (m:Nat) (σ:List (Nat × Nat)):Bool:=(List.range m).all fun i=>σ.any fun p=>Nat.beq p.1 i && Nat.beq p.2 i
theorem W7 {m:Nat} {σ:List (Nat × Nat)} (h:AaE m σ=true) {i:Nat} (hi:i<m):(i,i) ∈ σ:=by
 simp only [AaE,List.all_eq_true,List.mem_range,List.any_eq_true,Bool.and_eq_true] at h;obtain ⟨p,hp,h1,h2⟩:=h i hi;obtain ⟨a,b⟩:=p;have h1:=Nat.eq_of_beq_eq_true h1;have h2:=Nat.eq_of_beq_eq_true h2;simp only at h1 h2;subst h1; subst h2; exact hp
theorem BI {m:Nat} {s s':St} (hm:C.m=m) (ren:List (Nat × Nat)) (e:EQ (AaD ren s'.h) (s'.t.map (·.1)) s'.nx s=s':=by rfl) (h:V6 s'.nx (AaD ren s'.h)=true:=by rfl) (hk:AaE m (AaD ren s'.h)=true:=by rfl):Ki C s s':=TG _ _ _ h (fun i hi=>W7 hk (by rw [← hm]; exact hi)) e
def AaF:List (Nat × AV)→Nat→AV
 | [],_=>.any
 | p::r,n=>if p.1=n then p.2 else AaF r n
def AaG:Hp→Nat→Option OB
 | [],_=>none
 | p::r,n=>if p.1=n then p.2 else AaG r n
theorem QS {C:EH} {s:St} (L H:List Nat) (n:Nat) (hn:s.nx≤n):Ki C s ⟨L.map fun k=>(k,Fu s.t k),H.map fun k=>(k,hl s.h k),n⟩:=fun E a w R=>by
 refine ⟨E,R.defers,R.size,fun k => ?_,⟨?_,?_,?_,R.heap.lt⟩,fun id h=>Nat.lt_of_lt_of_le (R.nx id h) hn,?_,R.ext,R.imx,R.imn,R.frm⟩
 ·show Rd E w (Fu (L.map fun k=>(k,Fu s.t k)) k) _
  rw [TF];split
  ·exact R.tm k
  ·trivial
 all_goals
  have key:∀ id o,hl (H.map fun k=>(k,hl s.h k)) id=some o→hl s.h id=some o:=fun id o ho=>by
   obtain ⟨x,hx,hxo⟩:∃ x,look (H.map fun k=>(k,hl s.h k)) id=some x∧x=some o:=by
    simp only [hl] at ho;split at ho
    ·rename_i x' hx'
     cases ho; exact ⟨_,hx',rfl⟩
    ·cases ho
   have:=FW hx
   rw [List.mem_map] at this;obtain ⟨k,_,e⟩:=this;simp only [Prod.mk.injEq] at e;obtain ⟨rfl,e⟩:=e;rw [e,hxo]
 ·exact fun id o h1 h2=>R.heap.ob id o h1 (key id o h2)
 ·exact fun id id' o o' b h1 h2 h3 h4=>R.heap.apart id id' o o' b h1 h2 (key _ _ h3) (key _ _ h4)
 ·exact fun id o b h1 h2=>R.heap.im id o b h1 (key _ _ h2)
 ·exact fun id o b h1 h2=>R.own id o b h1 (key _ _ h2)
theorem AaH {C:EH} {s s':St} (ht:∀ n,∀ E w v,Rd E w (s.get n) v→Rd E w (s'.get n) v) (hh:s'.h=s.h) (hn:s.nx≤s'.nx):Ki C s s':=fun E a w R =>
 ⟨E,R.defers,R.size,fun n=>ht n E w _ (R.tm n),by rw [hh]; exact R.heap,fun id h=>Nat.lt_of_lt_of_le (R.nx id h) hn,by rw [hh]; exact R.own,R.ext,R.imx,R.imn,R.frm⟩
theorem AcJ {c:Bi} (n:Nat) {a b:AV} (ha:st.get n=a) (hs:∀ E w v,Rd E w a v→Rd E w b v) (h:AW P C c Q ⟨(n,b)::st.t,st.h,st.nx⟩):AW P C c Q st:=by
 refine DM (s':=⟨(n,b)::st.t,st.h,st.nx⟩) (AaH (fun k E w v hk => ?_) rfl (Nat.le_refl _)) h;by_cases hkn:k=n
 ·subst hkn
  have e:St.get ⟨(k,b)::st.t,st.h,st.nx⟩ k=b:=CL st.t k b;rw [e]; rw [ha] at hk; exact hs E w v hk
 ·have e:St.get ⟨(n,b)::st.t,st.h,st.nx⟩ k=st.get k:=D7 st.t (some n) b k (by simpa using fun h=>hkn h.symm)
  rw [e]; exact hk
theorem LR {c:Bi} (n:Nat) {a b:AV} (ha:st.get n=a) (hv:C4 true st.h 4 a=some b) (h:AW P C c Q ⟨(n,b)::st.t,st.h,st.nx⟩):AW P C c Q st:=by
 refine DM (s':=⟨(n,b)::st.t,st.h,st.nx⟩) (fun E a' w R=>⟨E,R.defers,R.size,fun k => ?_,R.heap,R.nx,R.own,R.ext,R.imx,R.imn,R.frm⟩) h;by_cases hkn:k=n
 ·subst hkn
  have e:St.get ⟨(k,b)::st.t,st.h,st.nx⟩ k=b:=CL st.t k b;rw [e];have hk:=R.tm k;rw [ha] at hk;refine Dm.rd _ _ (Dm.mono (fun i hi => ?_) (fun _ _=>rfl) _ _ (HS R.heap 4 a _ b hk hv));rcases hi with hi|⟨id,o,k1,k2,k3,k4⟩
  ·exact hi
  ·exact (R.heap.im id o i k1 k2 k3).2 (k4 rfl)
 ·have e:St.get ⟨(n,b)::st.t,st.h,st.nx⟩ k=st.get k:=D7 st.t (some n) b k (by simpa using fun h=>hkn h.symm)
  rw [e]; exact R.tm k
theorem Aeg {c:Bi} (n sz:Nat) (ha:st.get n=.lit (.slice none 0 0)) (h:AW P C c Q ⟨(n,.sl sz [])::st.t,st.h,st.nx⟩):AW P C c Q st :=
 AcJ (b:=.sl sz []) n ha (fun E w v hv=>Bl.nil sz E.im w v hv) h
theorem JF {α:Type} (k:Nat) (v:α) (r:List (Nat × α)) (n:Nat):look ((k,v)::r) n=if k=n then some v else look r n:=by
 by_cases h:k=n
 ·subst h; simp [look]
 ·simp [look,Ej h,h]
theorem IY {α:Type} (n:Nat):look ([]:List (Nat × α)) n=none:=rfl
theorem Ki.trans {C:EH} {s s' s'':St} (h:Ki C s s') (k:Ki C s' s''):Ki C s s'':=fun E a w R=>let ⟨E',R'⟩:=h E a w R; k E' a w R'
theorem AaI {X:Type} {c:Bi} (L H:List Nat) (ov:X→List (Nat × AV)) (oh:X→Hp) (n:Nat) (I:X→Prop) (μ:X→Nat) (x0:X) {kt:List (Nat × AV)} {kh:Hp}
 (et:(L.map fun k=>(k,AaF st.t k))=kt) (eh:(H.map fun k=>(k,AaG st.h k))=kh)
 (h0:Ki C st ⟨ov x0++kt,oh x0++kh,n⟩) (hI:I x0)
 (round:∀ x,I x→AW P C c (WY (fun s'=>∃ x',μ x'<μ x∧I x'∧Ki C s' ⟨ov x'++kt,oh x'++kh,n⟩) Q) ⟨ov x++kt,oh x++kh,n⟩):AW P C (.loop c) Q st :=
  Dr (fun x=>⟨ov x++kt,oh x++kh,n⟩) I μ x0 h0 hI round
theorem Ai {X:Type} {c:Bi} (L H:List Nat) (ov:X→List (Nat × AV)) (oh:X→Hp) (n:Nat) (I:X→Prop) (μ:X→Nat) (x0:X) {kt:List (Nat × AV)} {kh:Hp}
 (hI:I x0)
 (round:∀ x,I x→AW P C c (WY (fun s'=>∃ x',μ x'<μ x∧I x'∧Ki C s' ⟨ov x'++kt,oh x'++kh,n⟩) Q) ⟨ov x++kt,oh x++kh,n⟩)
 (et:(L.map fun k=>(k,AaF st.t k))=kt:=by (simp only [List.map_cons,List.map_nil,AaF,AaG,Js,↓reduceIte,Nat.reduceEqDiff,Nat.reduceAdd,List.length_cons,List.length_nil,List.take_zero,List.take_succ_cons,List.take_nil,List.drop_zero,List.drop_succ_cons,List.drop_nil,List.nil_append,List.cons_append,List.append_nil]; exact rfl))
 (eh:(H.map fun k=>(k,AaG st.h k))=kh:=by (simp only [List.map_cons,List.map_nil,AaF,AaG,Js,↓reduceIte,Nat.reduceEqDiff,Nat.reduceAdd,List.length_cons,List.length_nil,List.take_zero,List.take_succ_cons,List.take_nil,List.drop_zero,List.drop_succ_cons,List.drop_nil,List.nil_append,List.cons_append,List.append_nil]; exact rfl))
 (ht:(ov x0++kt).map (fun p=>(p.1,st.get p.1))=ov x0++kt:=by rfl)
 (hh:(oh x0++kh).map (fun p=>(p.1,hl st.h p.1))=oh x0++kh:=by rfl)
 (hn:Nat.ble st.nx n=true:=by rfl):AW P C (.loop c) Q st:=by
 refine Dr (fun x=>⟨ov x++kt,oh x++kh,n⟩) I μ x0 ?_ hI round
 have:=QS (C:=C) (s:=st) ((ov x0++kt).map (·.1)) ((oh x0++kh).map (·.1)) n (Nat.ble_eq ▸ hn)
 rw [List.map_map,List.map_map] at this;have e1:(ov x0++kt).map ((fun k=>(k,Fu st.t k)) ∘ (·.1))=ov x0++kt:=ht;have e2:(oh x0++kh).map ((fun k=>(k,hl st.h k)) ∘ (·.1))=oh x0++kh:=hh;rw [e1,e2] at this;exact this
theorem Am {res:List KH} {r:AV} {s:St} {r0 r1:AV} (h1:RQ s res=some r0:=by rfl) (h2:C4 false s.h 4 r0=some r1:=by rfl)
 (h3:Bl r1 r:=by (repeat (first|exact BE.nil|refine BE.cons ?_ ?_|exact Bl.nil _|exact Bl.refl _|exact Bl.any _|refine Bl.agg ?_|refine Bl.tup ?_))):Ret res r s:=⟨r0,r1,h1,h2,h3⟩
theorem Ud {c:Bi} (n:Nat) (e:TypeId) (sz:Nat) (hn:st.get n=.lit (.slice none 0 0)) (h:AW P C c Q ⟨(n,.own st.nx)::st.t,(st.nx,some ⟨true,false,e,sz,[]⟩)::st.h,st.nx+1⟩):AW P C c Q st:=by
 refine DM (fun E a w R => ?_) h;have hid:¬ E.live st.nx:=fun hl=>absurd (R.nx _ hl) (Nat.lt_irrefl _);have hl0:=LO (V:=.slice none 0 0) (sz:=sz) hid;have hval:(BY E st.nx (.slice none 0 0) sz).val st.nx=.slice none 0 0:=by simp [BY]
 have hsz:(BY E st.nx (.slice none 0 0) sz).sz st.nx=sz:=by simp [BY]
 have hne:∀ k,E.live k→k≠st.nx:=fun k hk e=>hid (e ▸ hk)
 have hlv:∀ k,(BY E st.nx (.slice none 0 0) sz).live k→k≠st.nx→E.live k:=fun k hk h=>by
  rcases hk with hk|hk
  ·exact hk
  ·exact absurd hk h
 refine ⟨BY E st.nx (.slice none 0 0) sz,R.defers,R.size,fun k => ?_,⟨?_,?_,?_,R.heap.lt⟩,?_,?_,?_,R.imx,R.imn,R.frm⟩
 ·by_cases hk:k=n
  ·subst hk
   have h1:a.tmps.getD k undef=.slice none 0 0:=by have:=R.tm k; rw [hn] at this; exact this
   have e1:St.get ⟨(k,.own st.nx)::st.t,(st.nx,some ⟨true,false,e,sz,[]⟩)::st.h,st.nx+1⟩ k=.own st.nx:=CL st.t k _;rw [h1,e1];exact ⟨.inr rfl,rfl,hval.symm⟩
  ·have e1:St.get ⟨(n,.own st.nx)::st.t,(st.nx,some ⟨true,false,e,sz,[]⟩)::st.h,st.nx+1⟩ k=st.get k:=D7 st.t (some n) _ k (by simpa using fun h=>hk h.symm)
   rw [e1];exact Rd.mono hl0 (fun b hb=>hb) (fun b _=>rfl) _ _ (R.tm k)
 ·intro k o hk ho
  rcases B2 ho with ⟨rfl,e1⟩|⟨hkn,e1⟩
  ·simp only [Option.some.injEq] at e1
   subst e1;refine ⟨hsz,[],none,0,hval,?_,rfl,(fun u hu=>by cases hu),Nat.zero_le _⟩;rw [hval];exact ⟨by simp,.inl ⟨rfl,rfl⟩⟩
  ·have hlk:=hlv k hk hkn
   obtain ⟨k1,k2,k3⟩:=hl0 k hlk;exact (R.heap.ob k o hlk e1).mono ⟨k2,k3⟩ hl0 (fun b hb=>hb) (fun b _=>rfl) (fun b _=>rfl)
 ·intro k k' o o' b hk hk' ho ho' hb hb'
  by_cases h1:k=st.nx
  ·subst h1; rw [hval] at hb; cases hb
  by_cases h2:k'=st.nx
  ·subst h2; rw [hval] at hb'; cases hb'
  have l1:=hlv k hk h1;have l2:=hlv k' hk' h2;rw [(hl0 k l1).2.1] at hb;rw [(hl0 k' l2).2.1] at hb';rcases B2 ho with ⟨e1,_⟩|⟨_,e1⟩
  ·exact absurd e1 h1
  rcases B2 ho' with ⟨e2,_⟩|⟨_,e2⟩
  ·exact absurd e2 h2
  exact R.heap.apart k k' o o' b l1 l2 e1 e2 hb hb'
 ·intro k o b hk ho hb
  by_cases h1:k=st.nx
  ·subst h1; rw [hval] at hb; cases hb
  have l1:=hlv k hk h1;rw [(hl0 k l1).2.1] at hb;rcases B2 ho with ⟨e1,_⟩|⟨_,e1⟩
  ·exact absurd e1 h1
  exact R.heap.im k o b l1 e1 hb
 ·intro k hk
  by_cases h1:k=st.nx
  ·subst h1; exact Nat.lt_succ_self _
  ·exact Nat.lt_succ_of_lt (R.nx k (hlv k hk h1))
 ·intro k o b hk ho hb
  by_cases h1:k=st.nx
  ·subst h1; rw [hval] at hb; cases hb
  have l1:=hlv k hk h1;rw [(hl0 k l1).2.1] at hb;rcases B2 ho with ⟨e1,_⟩|⟨_,e1⟩
  ·exact absurd e1 h1
  exact R.own k o b l1 e1 hb
 ·intro k hk
  obtain ⟨k1,k2,k3⟩:=R.ext k hk;obtain ⟨j1,j2,j3⟩:=hl0 k k1;exact ⟨j1,by rw [j2]; exact k2,by rw [j3]; exact k3⟩
end
structure AmZ (C:EH) (N m:Nat):Prop where
 N:C.N=N
 m:C.m=m
 ds:C.ds=[]
def Hh (E:CK) (h:Hp) (b:Nat):Prop:=∃ id o,E.live id∧hl h id=some o∧Bz (E.val id)=some b
structure Dn (P:Program) (f:FuncId) (args:List AV) (h:Hp) (m:Nat) (r:AV) (h':Hp) (m':Nat):Prop where
 able:OI P f
 calls:∀ (E0:CK) (w:World) (vs:List Value),B8 E0 w args vs→Cr E0 w h→(∀ id,E0.live id↔id<m) →
  Calls P f vs.toArray w fun e w'=>∃ v E1,e=.returned v∧Rd E1 w' r v∧Cr E1 w' h'∧(∀ id,E1.live id→id<m') ∧
   (∀ id,id<m→E1.live id∧E1.val id=E0.val id∧E1.sz id=E0.sz id)∧(∀ b,E0.im b→E1.im b)∧(∀ b,E1.im b→E0.im b∨w.heap.size≤b∨Hh E0 h b) ∧
    (∀ id o b,E1.live id→hl h' id=some o→Bz (E1.val id)=some b→w.heap.size≤b∨Hh E0 h b)∧Frm (Hh E0 h) w w'
def AjZ (m:Nat) (res:List KH) (r:AV) (h':Hp) (m':Nat) (s:St):Prop :=
 ∃ r0 σ,RQ s res=some r0∧V6 m' σ=true∧AaE m σ=true∧Cn σ r0=r∧(σ.map fun p=>(p.2,(hl s.h p.1).map (Cg σ)))=h'
def Anm (m:Nat) (res:List KH) (r:AV) (h':Hp) (m':Nat):Exit→St→Prop
 | .normal,s=>AjZ m res r h' m' s
 | .ret,s=>AjZ m res r h' m' s
 | _,_=>False
theorem BZ {m:Nat} {res:List KH} {r:AV} {h':Hp} {m':Nat} {s:St} (ren:List (Nat × Nat)) {r0:AV} (hr:RQ s res=some r0:=by rfl) (ho:V6 m' (AaD ren h')=true:=by rfl) (hk:AaE m (AaD ren h')=true:=by rfl)
 (hs:Cn (AaD ren h') r0=r:=by rfl) (hh:((AaD ren h').map fun p=>(p.2,(hl s.h p.1).map (Cg (AaD ren h'))))=h':=by rfl):AjZ m res r h' m' s:=⟨r0,_,hr,ho,hk,hs,hh⟩
theorem BK {P:Program} {f:FuncId} {F:A6} {args:List AV} {h:Hp} {m:Nat} {r:AV} {h':Hp} {m':Nat} (hF:Ag P f=some F)
 (hw:∀ C:EH,AmZ C F.N m→AW P C F.body (Anm m F.res r h' m') ⟨Js 0 args,h,m⟩) (hlen:args.length≤F.N:=by exact Nat.le_of_ble_eq_true rfl):Dn P f args h m r h' m':=by
 simp only [Ag] at hF;split at hF
 ·rename_i fn hfn
  split at hF
  ·rename_i b hb
   cases hnm : (fn.name == "runtime.NumGoroutine") with
   | true=>rw [hnm] at hF; cases hF
   | false =>
   rw [hnm,cond_false] at hF;refine ⟨⟨fn,hfn,hnm,by rw [hb]; rfl⟩,?_⟩;intro E0 w vs hrd H0 hlv;split at hF
   ·rename_i c res hc hres
    simp only [Option.some.injEq] at hF;subst hF
    let C:EH:=⟨Hh E0 h,w,fn.ntmps,E0,m,[]⟩
    have hC:AmZ C fn.ntmps m:=⟨rfl,rfl,rfl⟩;have hvl:vs.length=args.length:=hrd.length;simp only at hlen
    have hR:EP C E0 ⟨Js 0 args,h,m⟩ { tmps:=vs.toArray++Array.replicate (fn.ntmps - vs.toArray.size) undef,defers:=[] } w:=by
     refine ⟨rfl,?_,fun n => ?_,H0,fun id h=>(hlv id).1 h,fun id o b h1 h2 h3=>.inr ⟨id,o,h1,h2,h3⟩,fun id hid=>⟨(hlv id).2 hid,rfl,rfl⟩,fun b h=>h,fun b h=>.inl h,⟨rfl,rfl,rfl,Nat.le_refl _,fun _ _ _=>rfl⟩⟩
     ·show (vs.toArray++Array.replicate (fn.ntmps - vs.toArray.size) undef).size=fn.ntmps
      simp; omega
     ·have:=LN (E:=E0) (w:=w) args vs 0 n hrd
      rw [if_pos (Nat.zero_le _),Nat.sub_zero] at this
      have e:(vs.toArray++Array.replicate (fn.ntmps - vs.toArray.size) undef).getD n undef=vs.getD n undef:=by
       simp only [Array.getD_eq_getD_getElem?,List.getD_eq_getElem?_getD,Array.getElem?_append];by_cases hn:n<vs.length
       ·simp [hn]
       ·rw [if_neg (by simpa using hn)]
        rw [List.getElem?_eq_none (by omega)];simp only [Array.getElem?_replicate];split<;>rfl
      show Rd E0 w (Fu (Js 0 args) n) ((vs.toArray++Array.replicate (fn.ntmps - vs.toArray.size) undef).getD n undef);rw [e]; exact this
    refine calls_of_wp hfn hb (wp_mono (hw C hC b hc E0 _ w hR) ?_);rintro e a' w' ⟨E',s,hq,hR'⟩
    have Am:AjZ m res r h' m' s→a'.defers=[]∧∃ v,(results fn a'.tmps).run P w'=.ok v w'∧∃ v_1 E1,Ending.returned v=.returned v_1∧Rd E1 w' r v_1∧Cr E1 w' h'∧(∀ id,E1.live id→id<m') ∧
     (∀ id,id<m→E1.live id∧E1.val id=E0.val id∧E1.sz id=E0.sz id)∧(∀ b,E0.im b→E1.im b)∧(∀ b,E1.im b→E0.im b∨w.heap.size≤b∨Hh E0 h b) ∧
      (∀ id o b,E1.live id→hl h' id=some o→Bz (E1.val id)=some b→w.heap.size≤b∨Hh E0 h b)∧Frm (Hh E0 h) w w':=by
     rintro ⟨r0,σ,h1,h2,h3,h4,h5⟩;obtain ⟨v,hv,hr⟩:=KL hR' hres h1;have hmm:∀ i,i<C.m→(i,i) ∈ σ:=fun i hi=>W7 h3 hi;have hren:=Rd.ren h2 r0 v hr;rw [h4] at hren;have hcan:EQ σ [] m' s=⟨[],h',m'⟩:=by simp only [EQ,List.map_nil,h5]
     have R':=Qw σ [] m' h2 hmm hcan hR';exact ⟨hR'.defers,v,hv,v,D8 σ E',rfl,hren,R'.heap,R'.nx,R'.ext,R'.imx,R'.imn,R'.own,R'.frm⟩
    cases e with
    | normal=>exact Am hq
    | ret=>exact Am hq
    | _=>exact hq.elim
   ·cases hF
  ·cases hF
 ·cases hF
mutual
theorem W8 {E:CK} {w:World} {k:Nat→List Nat} {Q:Nat→Prop} (hk:∀ id,E.live id→∀ j ∈ k id,Q j):∀ (av:AV) (v:Value),Rd E w av v→∀ j ∈ Gx k av,Q j
 | .own id,v,h,j,hj=>by simp only [Gx] at hj; simp only [Rd] at h; exact hk id h.1 j hj
 | .optr id _ _,v,h,j,hj=>by simp only [Gx] at hj; simp only [Rd] at h; exact hk id h.1 j hj
 | .osl id _ _,v,h,j,hj=>by simp only [Gx] at hj; simp only [Rd] at h; exact hk id h.1 j hj
 | .agg cs,v,h,j,hj=>by
   simp only [Gx] at hj; simp only [Rd] at h;obtain ⟨vs,_,_,h2⟩:=h;exact IZ hk cs vs h2 j hj
 | .tup cs,v,h,j,hj=>by
   simp only [Gx] at hj; simp only [Rd] at h;obtain ⟨vs,_,h2⟩:=h;exact IZ hk cs vs h2 j hj
 | .fn f fi ca,v,h,j,hj=>by
   simp only [Gx,List.mem_append] at hj; simp only [Rd] at h;obtain ⟨vs,us,_,h2,h3⟩:=h;rcases hj with hj|hj
   ·exact IZ hk fi vs h2 j hj
   ·exact IZ hk ca us h3 j hj
 | .any,_,_,j,hj=>by simp [Gx] at hj
 | .lit _,_,_,j,hj=>by simp [Gx] at hj
 | .sl _ _,_,_,j,hj=>by simp [Gx] at hj
 | .ep _ _ _ _,_,_,j,hj=>by simp [Gx] at hj
 | .sem _,_,_,j,hj=>by simp [Gx] at hj
theorem IZ {E:CK} {w:World} {k:Nat→List Nat} {Q:Nat→Prop} (hk:∀ id,E.live id→∀ j ∈ k id,Q j):∀ (l:List AV) (vs:List Value),B8 E w l vs→∀ j ∈ X9 k l,Q j
 | [],_,_,j,hj=>by simp [X9] at hj
 | a::l,vs,h,j,hj=>by
   simp only [X9,List.mem_append] at hj; simp only [B8] at h;obtain ⟨v,rest,_,h1,h2⟩:=h;rcases hj with hj|hj
   ·exact W8 hk a v h1 j hj
   ·exact IZ hk l rest h2 j hj
end
theorem AaJ {E:CK} {w:World} {h:Hp} (H:Cr E w h):∀ (n:Nat) (id:Nat),E.live id→∀ j ∈ OK h n (.own id),E.live j
 | 0,id,_,j,hj=>by simp [OK] at hj
 | n+1,id,hl1,j,hj=>by
   simp only [OK,Gx,List.mem_cons] at hj;rcases hj with rfl|hj
   ·exact hl1
   ·cases ho:hl h id with
    | none=>simp [ho] at hj
    | some o =>
      simp only [ho] at hj;obtain ⟨_,k2⟩:=H.ob id o hl1 ho;cases hr:o.row with
      | true=>simp [hr] at hj
      | false =>
        rw [hr,cond_false] at k2;rcases k2 with ⟨hz,g,vs,cs,j1,j2,j3,j4,j5,j6⟩|⟨hz,g,es,clock,j1,j2,j3,j4⟩
        ·have hb:Nat.beq o.sz 0=false:=Ej (by omega)
         simp only [hr,hb,Bool.or_self,cond_false,j3] at hj;exact IZ (fun i hi=>AaJ H n i hi) cs vs j5 j hj
        ·simp [hr,hz] at hj
theorem AfC {E:CK} {w:World} {h:Hp} (H:Cr E w h) (n:Nat) (av:AV) (v:Value) (hr:Rd E w av v):∀ j ∈ OK h n av,E.live j:=by
 cases n with
 | zero=>intro j hj; simp [OK] at hj
 | succ n =>
   intro j hj;unfold OK at hj;refine W8 ?_ av v hr j hj;intro id hid i hi;refine AaJ H (n+1) id hid i ?_;unfold OK;simp only [Gx];exact hi
theorem Ue {E:CK} {w:World} {h:Hp} (H:Cr E w h):∀ (l:List AV) (vs:List Value),B8 E w l vs→∀ j ∈ HV h l,E.live j
 | [],_,_,j,hj=>by simp [HV] at hj
 | a::l,vs,hr,j,hj=>by
   simp only [HV,List.flatMap_cons,List.mem_append] at hj;simp only [B8] at hr;obtain ⟨v,rest,_,h1,h2⟩:=hr;rcases hj with hj|hj
   ·exact AfC H 4 a v h1 j hj
   ·exact Ue H l rest h2 j hj
def Iv (a b:AV):Prop:=∀ E w v,Rd E w a v→Rd E w b v
theorem Iv.refl (a:AV):Iv a a:=fun _ _ _ h=>h
theorem Iv.any (a:AV):Iv a .any:=fun _ _ _ _=>trivial
theorem Iv.nil (sz:Nat):Iv (.lit (.slice none 0 0)) (.sl sz []):=fun E w v h=>Bl.nil sz E.im w v h
def Fy (a b:List AV):Prop:=∀ E w v,B8 E w a v→B8 E w b v
theorem Fy.refl (a:List AV):Fy a a:=fun _ _ _ h=>h
theorem Fy.nil:Fy [] []:=fun _ _ _ h=>h
theorem Fy.cons {a b:AV} {l r:List AV} (h:Iv a b) (k:Fy l r):Fy (a::l) (b::r):=fun E w v hv=>by
 simp only [B8] at hv ⊢;obtain ⟨x,rest,h1,h2,h3⟩:=hv;exact ⟨x,rest,h1,h E w x h2,k E w rest h3⟩
theorem Iv.agg {l r:List AV} (h:Fy l r):Iv (.agg l) (.agg r):=fun E w v hv=>by
 simp only [Rd] at hv ⊢;obtain ⟨vs,h1,h0,h2⟩:=hv;exact ⟨vs,h1,h0,h E w vs h2⟩
def Er (σ:List (Nat × Nat)):List (Nat × Nat):=σ.map fun p=>(p.2,p.1)
def QT (σ:List (Nat × Nat)) (m m' nx:Nat):List (Nat × Nat):=(List.range (m' - m)).map (fun i=>(m+i,nx+i))++Er σ
def Iw (m:Nat) (σ:List (Nat × Nat)):Bool:=(List.range m).all fun i=>σ.any fun p=>Nat.beq p.2 i
theorem NI {m:Nat} {σ:List (Nat × Nat)} (h:Iw m σ=true) {i:Nat} (hi:i<m):∃ p ∈ σ,p.2=i:=by
 simp only [Iw,List.all_eq_true,List.mem_range,List.any_eq_true] at h;obtain ⟨p,hp,h1⟩:=h i hi;exact ⟨p,hp,Nat.eq_of_beq_eq_true h1⟩
mutual
theorem Rd.map {E E':CK} {w:World} {τ:List (Nat × Nat)} (hi:∀ b,E.im b→E'.im b) (hτ:∀ j,E.live j→∃ k,look τ j=some k∧E'.live k∧E'.val k=E.val j∧E'.sz k=E.sz j):∀ (av:AV) (v:Value),Rd E w av v→Rd E' w (Cn τ av) v
 | .any,_,_=>trivial
 | .lit _,_,h=>h
 | .sl sz es,v,h=>Dm.mono hi (fun _ _=>rfl) (.sl sz es) v h
 | .ep sz es i off,v,h=>Dm.mono hi (fun _ _=>rfl) (.ep sz es i off) v h
 | .agg cs,v,h=>by
   simp only [Cn,Rd] at h ⊢;obtain ⟨vs,h1,h0,h2⟩:=h;exact ⟨vs,h1,h0,B8.map hi hτ cs vs h2⟩
 | .tup cs,v,h=>by
   simp only [Cn,Rd] at h ⊢;obtain ⟨vs,h1,h2⟩:=h;exact ⟨vs,h1,B8.map hi hτ cs vs h2⟩
 | .own id,v,h=>by
   simp only [Cn,Rd] at h ⊢;obtain ⟨h1,h0,h2⟩:=h;obtain ⟨k,e,k1,k2,k3⟩:=hτ id h1;rw [e];exact ⟨k1,h0,by rw [k2]; exact h2⟩
 | .optr id i off,v,h=>by
   simp only [Cn,Rd] at h ⊢;obtain ⟨h1,b,h2,h3⟩:=h;obtain ⟨k,e,k1,k2,k3⟩:=hτ id h1;rw [e];exact ⟨k1,b,by rw [k2]; exact h2,by rw [k3]; exact h3⟩
 | .osl id off n,v,h=>by
   simp only [Cn,Rd] at h ⊢;obtain ⟨h1,b,len,cap,h2,h3,h4⟩:=h;obtain ⟨k,e,k1,k2,k3⟩:=hτ id h1;rw [e];exact ⟨k1,b,len,cap,by rw [k2]; exact h2,h3,by rw [k3]; exact h4⟩
 | .sem s,v,h=>by
   simp only [Cn,Rd] at h ⊢;exact s.mono _ _ _ _ _ hi (fun _ _=>rfl) h
 | .fn f fi ca,v,h=>by
   simp only [Cn,Rd] at h ⊢;obtain ⟨vs,us,h1,h2,h3⟩:=h;exact ⟨vs,us,h1,B8.map hi hτ fi vs h2,B8.map hi hτ ca us h3⟩
theorem B8.map {E E':CK} {w:World} {τ:List (Nat × Nat)} (hi:∀ b,E.im b→E'.im b) (hτ:∀ j,E.live j→∃ k,look τ j=some k∧E'.live k∧E'.val k=E.val j∧E'.sz k=E.sz j):∀ (l:List AV) (vs:List Value),B8 E w l vs→B8 E' w (HI τ l) vs
 | [],_,h=>h
 | a::l,vs,h=>by
   simp only [HI,B8] at h ⊢;obtain ⟨v,rest,h1,h2,h3⟩:=h;exact ⟨v,rest,h1,Rd.map hi hτ a v h2,B8.map hi hτ l rest h3⟩
end
theorem G6.map {E E':CK} {w:World} {τ:List (Nat × Nat)} (hi:∀ b,E.im b→E'.im b) (hτ:∀ j,E.live j→∃ k,look τ j=some k∧E'.live k∧E'.val k=E.val j∧E'.sz k=E.sz j) {j k:Nat} {o:OB} (h:G6 E w j o) (hv:E'.val k=E.val j) (hs:E'.sz k=E.sz j):G6 E' w k (Cg τ o):=by
 obtain ⟨k1,k2⟩:=h;cases hr:o.row with
 | true =>
   have ee:Cg τ o=o:=by simp [Cg,hr]
   rw [ee];refine ⟨by rw [hs]; exact k1,?_⟩;rw [hr] at k2 ⊢;obtain ⟨vs,a',cap,j1,j2,j3,j4,j5⟩:=k2;exact ⟨vs,a',cap,by rw [hv]; exact j1,by rw [hv]; exact j2,AZ.mono hi (fun _ _=>rfl) _ _ _ j3,j4,j5⟩
 | false =>
   rw [hr] at k2;rcases k2 with ⟨hz,g,vs,cs,j1,j2,j3,j4,j5,j6⟩|⟨hz,g,es,clock,j1,j2,j3,j4⟩
   ·have ee:Cg τ o={ o with es:=o.es.map (HI τ) }:=by
     have:(o.sz == 0)=false:=by simp; omega
     simp [Cg,hr,this]
    rw [ee];refine ⟨by rw [hs]; exact k1,?_⟩;rw [hr];exact .inl ⟨hz,g,vs,HI τ cs,by rw [hv]; exact j1,j2,by simp [j3],j4,B8.map hi hτ _ _ j5,j6⟩
   ·have ee:Cg τ o=o:=by simp [Cg,hr,hz]
    rw [ee];refine ⟨by rw [hs]; exact k1,?_⟩;rw [hr];exact .inr ⟨hz,g,es,clock,by rw [hv]; exact j1,j2,RdM.imp (fun cs vs=>Be.mono hi (fun _ _=>rfl) cs vs) _ _ j3,j4⟩
theorem AfD {n:Nat} {σ:List (Nat × Nat)} (h:V6 n σ=true) {p:Nat × Nat} (hp:p ∈ σ):look (Er σ) p.2=some p.1:=by
 have hm:p.2 ∈ (Er σ).map (·.1):=by
  simp only [Er,List.map_map];exact List.mem_map.2 ⟨p,hp,rfl⟩
 obtain ⟨x,hx⟩:=Qt hm
 have:=FW hx
 simp only [Er,List.mem_map] at this;obtain ⟨q,hq,e⟩:=this;simp only [Prod.mk.injEq] at e
 have:=GH h q p hq hp e.1
 subst this;rw [hx,← e.2]
def F0 (τ:List (Nat × Nat)) (h':Hp):Hp:=h'.map fun p=>((match look τ p.1 with|some k=>k|none=>0),p.2.map (Cg τ))
section
variable {P:Program} {st:St} {d:Option Nat} {g:Option (Nat × Bool)}
theorem AlK {τ:List (Nat × Nat)} {h':Hp} {j:Nat} {o:OB} (hj:hl h' j=some o) (hinj:∀ i,i ∈ h'.map (·.1)→look τ i=look τ j→i=j) {k:Nat} (hk:look τ j=some k) (hall:∀ i,i ∈ h'.map (·.1)→∃ k,look τ i=some k) (rest:Hp) :
 hl (F0 τ h'++rest) k=some (Cg τ o):=by
 have key:look (F0 τ h') k=some (some (Cg τ o)):=by
  induction h' with
  | nil=>simp [hl,look] at hj
  | cons p h' ih =>
    obtain ⟨i,x⟩:=p;simp only [F0,List.map_cons,look];by_cases hij:i=j
    ·subst hij
     simp only [hl,look,Nat.beq_refl,cond_true] at hj;rw [hk];simp only [Nat.beq_refl,cond_true];cases x with
     | none=>cases hj
     | some o'=>simp only [Option.some.injEq] at hj; subst hj; rfl
    ·obtain ⟨k',hk'⟩:=hall i (by simp)
     have hne:k'≠k:=fun e=>hij (hinj i (by simp) (by rw [hk',hk,e]));rw [hk'];simp only [Ej hne,cond_false];have hj':hl h' j=some o:=by simpa only [hl,look,Ej hij,cond_false] using hj
     exact ih hj' (fun i' hi'=>hinj i' (by simp only [List.map_cons,List.mem_cons]; exact .inr hi')) (fun i' hi'=>hall i' (by simp only [List.map_cons,List.mem_cons]; exact .inr hi'))
 simp only [hl,HP,key]
theorem AfE {τ:List (Nat × Nat)} {h':Hp} {k:Nat} (hk:k ∈ (F0 τ h').map (·.1)):∃ j,j ∈ h'.map (·.1)∧(match look τ j with|some k=>k|none=>0)=k:=by
 simp only [F0,List.map_map,List.mem_map] at hk;obtain ⟨p,hp,e⟩:=hk;exact ⟨p.1,List.mem_map.2 ⟨p,hp,rfl⟩,e⟩
theorem AfF {τ:List (Nat × Nat)} {h':Hp} {j k:Nat} (hm:j ∈ h'.map (·.1)) (hj:hl h' j=none) (hinj:∀ i,i ∈ h'.map (·.1)→look τ i=look τ j→i=j) (hk:look τ j=some k) (hall:∀ i,i ∈ h'.map (·.1)→∃ k,look τ i=some k) (rest:Hp) :
 hl (F0 τ h'++rest) k=none:=by
 have key:look (F0 τ h') k=some none:=by
  induction h' with
  | nil=>simp at hm
  | cons p h' ih =>
    obtain ⟨i,x⟩:=p;simp only [F0,List.map_cons,look];by_cases hij:i=j
    ·subst hij
     simp only [hl,look,Nat.beq_refl,cond_true] at hj;rw [hk];simp only [Nat.beq_refl,cond_true];cases x with
     | none=>rfl
     | some o'=>cases hj
    ·obtain ⟨k',hk'⟩:=hall i (by simp)
     have hne:k'≠k:=fun e=>hij (hinj i (by simp) (by rw [hk',hk,e]));rw [hk'];simp only [Ej hne,cond_false];have hj':hl h' j=none:=by simpa only [hl,look,Ej hij,cond_false] using hj
     refine ih ?_ hj' (fun i' hi'=>hinj i' (by simp only [List.map_cons,List.mem_cons]; exact .inr hi')) (fun i' hi'=>hall i' (by simp only [List.map_cons,List.mem_cons]; exact .inr hi'));simp only [List.map_cons,List.mem_cons] at hm;rcases hm with h|h
     ·exact absurd h.symm hij
     ·exact h
 simp only [hl,HP,key]
theorem AaK (σ:List (Nat × Nat)):∀ l:List AV,HI σ l=l.map (Cn σ)
 | []=>rfl
 | a::l=>by simp only [HI,List.map_cons,AaK σ l]
theorem W9 {m nx:Nat} (l:List (Nat × Nat)):∀ (n j:Nat),look ((List.range n).map (fun i=>(m+i,nx+i))++l) j=if m≤j∧j<m+n then some (nx+(j - m)) else look l j:=by
 intro n
 induction n generalizing l with
 | zero=>intro j; rw [if_neg (by omega)]; rfl
 | succ n ih =>
   intro j;rw [List.range_succ,List.map_append,List.append_assoc,ih];simp only [List.map_cons,List.map_nil,List.cons_append,List.nil_append,JF];split
   ·rw [if_pos (by omega)]
   ·split
    ·rename_i h1 h2; subst h2; rw [if_pos (by omega)]; congr 1; omega
    ·rw [if_neg (by omega)]
theorem Ahd {σ:List (Nat × Nat)} {m:Nat} (n nx:Nat) {j:Nat} (hj:j<m):look (QT σ m (m+n) nx) j=look (Er σ) j:=by
 unfold QT;rw [Nat.add_sub_cancel_left,W9,if_neg (by omega)]
theorem Ahe {σ:List (Nat × Nat)} {m n:Nat} (nx:Nat) {j:Nat} (hj:j<n):look (QT σ m (m+n) nx) (m+j)=some (nx+j):=by
 unfold QT;rw [Nat.add_sub_cancel_left,W9,if_pos (by omega)]; congr 2; omega
theorem Yy {fo:Operand} {args:List Operand} {f:FuncId} {fi ca argsA argsC:List AV} {hC h':Hp} {m m':Nat} {r:AV} (σ:List (Nat × Nat)) (hg:BD st g) (hf:ev st fo=.fn f fi ca)
 (hσ:V6 m σ=true) (hcov:Iw m σ=true) (hlive:(σ.all fun p=>(HV (restr (σ.map (·.1)) st.h) (fi++(args.map (ev st)++ca))).any (Nat.beq p.1))=true)
 (hargs:(fi++(args.map (ev st)++ca)).map (Cn σ)=argsA) (hs:Fy argsA argsC) (hh0:(σ.map fun p=>(p.2,(hl st.h p.1).map (Cg σ)))=hC) (hro:(σ.all fun p=>match hl st.h p.1 with|some o => !o.ro|none=>true)=true) (hc:Dn P f argsC hC m r h' m')
 (hkeys:((h'.map (·.1)).all fun i=>Nat.blt i m')=true) (hin:Iw m' (h'.map fun p=>(p.1,p.1))=true) (hm':Nat.ble m m'=true) :
 BS P st ⟨⟨d,g,.call fo args⟩,Cn (QT σ m m' st.nx) r,σ.map (·.1),F0 (QT σ m m' st.nx) h',m' - m⟩:=by
 intro N ops o hlow C E a w sx hN R hag hh hnw K Q hK;rw [if_pos (C2 hlow R hag hg)];obtain ⟨h1,h2,h3,h4⟩:=Bp hlow;have hr:∀ x ∈ fo::args,Rd E w (ev st x) (a.eval x):=fun x hx=>Cv R hag (by simpa [Ci.opds] using hx);have hfv:=hr fo (by simp);rw [hf] at hfv;obtain ⟨vs,us,hfv,hfi,hca⟩:=hfv;have hargs0:B8 E w (args.map (ev st)) (args.map a.eval):=OL (fun x hx=>hr x (List.mem_cons_of_mem _ hx));have hall:B8 E w (fi++(args.map (ev st)++ca)) (vs++(args.map a.eval++us)):=hfi.append (hargs0.append hca);have hhx:∀ id,id ∈ σ.map (·.1)→hl sx.h id=hl st.h id:=fun id hid=>hh id (.inl hid);have hrefs:=Ue (R.heap.restr hhx) (fi++(args.map (ev st)++ca)) _ hall
 have hlv:∀ p ∈ σ,E.live p.1:=fun p hp=>by
  rw [List.all_eq_true] at hlive
  have:=hlive p hp
  rw [List.any_eq_true] at this;obtain ⟨j,hj,hb⟩:=this;rw [Nat.eq_of_beq_eq_true hb];exact hrefs j hj
 have hroF:∀ p ∈ σ,∀ o0,hl sx.h p.1=some o0→o0.ro=false:=fun p hp o0 ho=>by
  rw [List.all_eq_true] at hro
  have:=hro p hp
  rw [hhx p.1 (List.mem_map.2 ⟨p,hp,rfl⟩)] at ho;rw [ho] at this;simpa using this
 obtain ⟨⟨fn,hfn,hname,hbody⟩,hcall⟩:=hc
 have hargsR:B8 (D8 σ E) w argsC (vs++(args.map a.eval++us)):=by
  refine hs _ _ _ ?_;rw [← hargs]
  have:=B8.ren hσ _ _ hall
  rw [AaK] at this;exact this
 have hcan:(σ.map fun p=>(p.2,(hl sx.h p.1).map (Cg σ)))=hC:=by
  rw [← hh0];refine List.map_congr_left fun p hp => ?_;rw [hhx p.1 (List.mem_map.2 ⟨p,hp,rfl⟩)]
 have hR0:Cr (D8 σ E) w hC:=by
  have R':EP { C with m:=0 } E sx a w:=⟨R.defers,R.size,R.tm,R.heap,R.nx,R.own,fun id hid=>absurd hid (Nat.not_lt_zero _),R.imx,R.imn,R.frm⟩
  have:=(Qw σ [] m hσ (fun i hi=>absurd hi (Nat.not_lt_zero _)) (rfl:EQ σ [] m sx=EQ σ [] m sx) R').heap
  rw [← hcan];exact this
 have hE0:∀ id,(D8 σ E).live id↔id<m:=fun id=>by
  constructor
  ·rintro ⟨p,hp,rfl,_⟩; exact Nf hσ p hp
  ·intro hid
   obtain ⟨p,hp,e⟩:=NI hcov hid;exact ⟨p,hp,e,hlv p hp⟩
 have hcc:=hcall (D8 σ E) w _ hargsR hR0 hE0
 have hrun:(execOp a.eval o).run P w=.ok (.enter f (vs++(args.map a.eval++us)).toArray) w:=by
  obtain ⟨dst,op,ty,pos,after,guard⟩:=o;obtain ⟨l,rfl⟩:=AL h3;have hcf:(callFunc f (vs++(args.map a.eval++us)).toArray).run P w=.ok (.enter f (vs++(args.map a.eval++us)).toArray) w:=Jt hfn hname hbody;simp only [execOp,resolve,Sem.run_bind,hfv,Deferred.ofValue,Sem.run_pure,Result.andThen_ok,invoke];simpa using hcf
 unfold Oper.wp;rw [hrun,Oper.upon_enter];refine hcc.mono ?_;rintro e w' ⟨v,E1,rfl,hrv,H1,hlt1,hext,him1,himn,hown1,hfrm⟩;show K _ _
 have hX:∀ b,Hh (D8 σ E) hC b→∃ p o0,p ∈ σ∧hl sx.h p.1=some o0∧Bz (E.val p.1)=some b:=by
  rintro b ⟨id,o0,⟨p,hp,rfl,hl1⟩,ho,hb⟩;rw [← hcan] at ho;obtain ⟨q,o1,hq,e1,ho1,rfl⟩:=IQ (st:=sx) hσ ho;obtain rfl:=GH hσ q p hq hp e1;simp only [D8,E3 hσ hp] at hb;exact ⟨q,o1,hp,ho1,hb⟩
 obtain ⟨n,rfl⟩:∃ n,m'=m+n:=Nat.exists_eq_add_of_le (by simpa [Nat.ble_eq] using hm');rw [Nat.add_sub_cancel_left] at hnw hK
 replace hnw:∀ j,j<n→¬ E.live (st.nx+j)∧st.nx+j<sx.nx:=hnw
 generalize hτe:QT σ m (m+n) st.nx=τ at hK ⊢
 let E2:CK:=⟨E1.im,fun k=>E.live k∨(∃ j,j<n∧k=st.nx+j∧E1.live (m+j)),fun k=>if st.nx≤k∧k<st.nx+n then E1.val (m+(k - st.nx)) else E.val k,fun k=>if st.nx≤k∧k<st.nx+n then E1.sz (m+(k - st.nx)) else E.sz k⟩
 have hne:∀ k,E.live k→¬ (st.nx≤k∧k<st.nx+n):=fun k hk h=>by
  have h0:=(hnw (k - st.nx) (by omega)).1;rw [show st.nx+(k - st.nx)=k from by omega] at h0;exact h0 hk
 have hl2:∀ k,E.live k→E2.live k∧E2.val k=E.val k∧E2.sz k=E.sz k:=fun k hk=>⟨.inl hk,by simp only [E2]; rw [if_neg (hne k hk)],by simp only [E2]; rw [if_neg (hne k hk)]⟩;have hi2:∀ b,E.im b→E2.im b:=fun b hb=>him1 b hb
 have hXno:∀ b,E.im b→¬ Hh (D8 σ E) hC b:=fun b hb hx=>by
  obtain ⟨p,o0,hp,ho,hbb⟩:=hX b hx;have k1:=(R.heap.im p.1 o0 b (hlv p hp) ho hbb).1 hb;rw [hroF p hp o0 ho] at k1;cases k1
 have hw:∀ b,E.im b→w'.heap[b]? = w.heap[b]? := fun b hb=>hfrm.block b (R.heap.lt b hb) (hXno b hb)
 have hXown:∀ b,Hh (D8 σ E) hC b→C.w0.heap.size≤b∨C.X b:=fun b hb=>by
  obtain ⟨p,o0,hp,ho,hbb⟩:=hX b hb;exact R.own p.1 o0 b (hlv p hp) ho hbb
 have hlo:∀ p ∈ σ,look τ p.2=some p.1:=fun p hp=>by
  rw [← hτe,Ahd n st.nx (Nf hσ p hp)];exact AfD hσ hp
 have hlom:∀ j,j<n→look τ (m+j)=some (st.nx+j):=fun j hj=>by
  rw [← hτe,Ahe st.nx hj]
 have hlook:∀ j,j<m+n→(∃ p ∈ σ,p.2=j∧look τ j=some p.1)∨(∃ i,i<n∧j=m+i∧look τ j=some (st.nx+i)):=fun j hj=>by
  by_cases hjm:j<m
  ·obtain ⟨p,hp,e⟩:=NI hcov hjm
   exact .inl ⟨p,hp,e,e ▸ hlo p hp⟩
  ·have e:j=m+(j - m):=by omega
   exact .inr ⟨j - m,by omega,e,by rw [e,hlom _ (by omega)]; congr 1; omega⟩
 have hnxσ:∀ i,i<n→∀ p ∈ σ,p.1≠st.nx+i:=fun i h p hp e=>(hnw i h).1 (e ▸ hlv p hp)
 have hinj:∀ i j,i<m+n→j<m+n→look τ i=look τ j→i=j:=fun i j hi hj e=>by
  rcases hlook i hi with ⟨p,hp,e1,k1⟩|⟨i1,hmm,e1,k1⟩<;>rcases hlook j hj with ⟨q,hq,e2,k2⟩|⟨j1,hmm2,e2,k2⟩
  ·rw [k1,k2] at e
   have hpq:=Option.some.inj e;have l1:=KJ hσ p hp;have l2:=KJ hσ q hq;rw [hpq] at l1;rw [l1] at l2;rw [← e1,← e2]; exact Option.some.inj l2
  ·rw [k1,k2] at e
   exact absurd (Option.some.inj e) (hnxσ j1 hmm2 p hp)
  ·rw [k1,k2] at e
   exact absurd (Option.some.inj e).symm (hnxσ i1 hmm q hq)
  ·rw [k1,k2] at e
   have:=Option.some.inj e
   omega
 have hkeyL:∀ i,i ∈ h'.map (·.1)→i<m+n:=fun i hi=>by
  rw [List.all_eq_true] at hkeys
  have:=hkeys i hi
  simpa [Nat.blt_eq] using this
 have hkeyI:∀ i,i<m+n→i ∈ h'.map (·.1):=fun i hi=>by
  obtain ⟨p,hp,e⟩:=NI hin hi;rw [List.mem_map] at hp;obtain ⟨q,hq,rfl⟩:=hp;exact List.mem_map.2 ⟨q,hq,e⟩
 have hτ:∀ j,E1.live j→∃ k,look τ j=some k∧E2.live k∧E2.val k=E1.val j∧E2.sz k=E1.sz j:=fun j hj=>by
  rcases hlook j (hlt1 j hj) with ⟨p,hp,e1,k1⟩|⟨i,hmm,e1,k1⟩
  ·obtain ⟨j1,j2,j3⟩:=hl2 p.1 (hlv p hp)
   obtain ⟨i1,i2,i3⟩:=hext j (by rw [← e1]; exact Nf hσ p hp);have hb:=E3 hσ hp;refine ⟨p.1,k1,j1,?_,?_⟩
   ·rw [j2,i2,← e1]; simp only [D8,hb]
   ·rw [j3,i3,← e1]; simp only [D8,hb]
  ·refine ⟨st.nx+i,k1,.inr ⟨i,hmm,rfl,e1 ▸ hj⟩,?_,?_⟩
   ·simp only [E2]; rw [if_pos (by omega),e1]; congr 1; omega
   ·simp only [E2]; rw [if_pos (by omega),e1]; congr 1; omega
 have hcase:∀ id o1,E2.live id→hl (F0 τ h'++sx.h) id=some o1 →
  (∃ j o',E1.live j∧hl h' j=some o'∧o1=Cg τ o'∧look τ j=some id∧E2.val id=E1.val j∧E2.sz id=E1.sz j)∨(id ∉ (F0 τ h').map (·.1)∧E.live id∧hl sx.h id=some o1):=by
  intro id o1 hl1 ho;by_cases hmem:id ∈ (F0 τ h').map (·.1)
  ·obtain ⟨j,hj,e⟩:=AfE hmem
   have hjm:=hkeyL j hj
   obtain ⟨k,hk⟩:∃ k,look τ j=some k:=by
    rcases hlook j hjm with ⟨p,_,_,k1⟩|⟨_,_,_,k1⟩
    ·exact ⟨_,k1⟩
    ·exact ⟨_,k1⟩
   rw [hk] at e;simp only at e;subst e
   have hallk:∀ i,i ∈ h'.map (·.1)→∃ k,look τ i=some k:=fun i hi=>by
    rcases hlook i (hkeyL i hi) with ⟨p,_,_,k1⟩|⟨_,_,_,k1⟩
    ·exact ⟨_,k1⟩
    ·exact ⟨_,k1⟩
   have hinjk:∀ i,i ∈ h'.map (·.1)→look τ i=look τ j→i=j:=fun i hi=>hinj i j (hkeyL i hi) hjm
   have hjlive:E1.live j:=by
    rcases hlook j hjm with ⟨p,hp,e1,k1⟩|⟨i,hmm,e1,k1⟩
    ·exact (hext j (by rw [← e1]; exact Nf hσ p hp)).1
    ·rw [hk] at k1
     have hkn:=Option.some.inj k1;rcases hl1 with hl1|⟨i2,hi2',e2,hl1⟩
     ·exact absurd (hkn ▸ hl1) (hnw i hmm).1
     ·rw [e1,show i=i2 from by omega]; exact hl1
   left;cases hj':hl h' j with
   | none =>
     rw [AfF hj hj' hinjk hk hallk] at ho;cases ho
   | some o' =>
     rw [AlK hj' hinjk hk hallk] at ho;obtain ⟨k2,e2,_,v2,s2⟩:=hτ j hjlive;rw [hk] at e2;obtain rfl:=Option.some.inj e2;exact ⟨j,o',hjlive,hj',(Option.some.inj ho).symm,hk,v2,s2⟩
  ·right
   rw [Qu _ _ _ hmem] at ho;refine ⟨hmem,?_,ho⟩;rcases hl1 with hl1|⟨i,hmm,e,_⟩
   ·exact hl1
   ·exfalso
    refine hmem ?_;simp only [F0,List.map_map,List.mem_map]
    have:=hkeyI (m+i) (by omega)
    rw [List.mem_map] at this;obtain ⟨q,hq,eq⟩:=this;refine ⟨q,hq,?_⟩;simp only [Function.comp,eq,hlom i hmm,e]
 have hσkey:∀ p ∈ σ,p.1 ∈ (F0 τ h').map (·.1):=fun p hp=>by
  have hlt:p.2<m+n:=by have:=Nf hσ p hp; omega
  have:=hkeyI p.2 hlt
  rw [List.mem_map] at this;obtain ⟨q,hq,eq⟩:=this;simp only [F0,List.map_map,List.mem_map];refine ⟨q,hq,?_⟩;simp only [Function.comp,eq,hlo p hp]
 have hfar:∀ id o0 b,id ∉ (F0 τ h').map (·.1)→E.live id→hl sx.h id=some o0→Bz (E.val id)=some b→¬ Hh (D8 σ E) hC b:=by
  intro id o0 b hout hl1 ho hb hx;obtain ⟨p,o1,hp,hpo,hbb⟩:=hX b hx
  have:=R.heap.apart id p.1 o0 o1 b hl1 (hlv p hp) ho hpo hb hbb
  exact hout (this ▸ hσkey p hp)
 have RM:EP C E2 ⟨sx.t,F0 τ h'++sx.h,sx.nx⟩ a w':=by
  refine ⟨R.defers,R.size,fun n=>Rd.mono hl2 hi2 hw _ _ (R.tm n),⟨?_,?_,?_,H1.lt⟩,?_,?_,?_,fun b hb=>hi2 b (R.imx b hb),?_,?_⟩
  ·intro id o1 hl1 ho
   rcases hcase id o1 hl1 ho with ⟨j,o',k1,k2,rfl,k4,k5,k6⟩|⟨k1,k2,k3⟩
   ·exact G6.map (E:=E1) (E':=E2) (fun b hb=>hb) hτ (H1.ob j o' k1 k2) k5 k6
   ·refine (R.heap.ob id o1 k2 k3).mono (hl2 id k2).2 hl2 hi2 hw (fun b hb=>hfrm.block b (R.heap.blk_lt k2 k3 hb) (hfar id o1 b k1 k2 k3 hb))
  ·intro id id' o1 o2 b hl1 hl1' ho ho' hb hb'
   rcases hcase id o1 hl1 ho with ⟨j,o',k1,k2,rfl,k4,k5,k6⟩|⟨k1,k2,k3⟩<;>rcases hcase id' o2 hl1' ho' with ⟨j',o'',i1,i2,rfl,i4,i5,i6⟩|⟨i1,i2,i3⟩
   ·rw [k5] at hb; rw [i5] at hb'
    have:=H1.apart j j' _ _ b k1 i1 k2 i2 hb hb'
    subst this;rw [k4] at i4; exact Option.some.inj i4
   ·exfalso
    rw [k5] at hb; rw [(hl2 id' i2).2.1] at hb';rcases hown1 j _ b k1 k2 hb with h|h
    ·have:=R.heap.blk_lt i2 i3 hb'; omega
    ·exact hfar id' _ b i1 i2 i3 hb' h
   ·exfalso
    rw [i5] at hb'; rw [(hl2 id k2).2.1] at hb;rcases hown1 j' _ b i1 i2 hb' with h|h
    ·have:=R.heap.blk_lt k2 k3 hb; omega
    ·exact hfar id _ b k1 k2 k3 hb h
   ·rw [(hl2 id k2).2.1] at hb; rw [(hl2 id' i2).2.1] at hb'
    exact R.heap.apart id id' _ _ b k2 i2 k3 i3 hb hb'
  ·intro id o1 b hl1 ho hb
   rcases hcase id o1 hl1 ho with ⟨j,o',k1,k2,rfl,k4,k5,k6⟩|⟨k1,k2,k3⟩
   ·rw [k5] at hb
    have er:(Cg τ o').ro=o'.ro:=by unfold Cg; cases o'.row<;>cases (o'.sz == 0)<;>rfl
    rw [er];exact H1.im j o' b k1 k2 hb
   ·rw [(hl2 id k2).2.1] at hb
    rw [← R.heap.im id o1 b k2 k3 hb];constructor
    ·intro h
     rcases himn b h with h|h|h
     ·exact h
     ·have:=R.heap.blk_lt k2 k3 hb; omega
     ·exact absurd h (hfar id o1 b k1 k2 k3 hb)
    ·exact hi2 b
  ·rintro id (h|⟨j,h,rfl,_⟩)
   ·exact R.nx id h
   ·exact (hnw j h).2
  ·intro id o1 b hl1 ho hb
   rcases hcase id o1 hl1 ho with ⟨j,o',k1,k2,rfl,k4,k5,k6⟩|⟨k1,k2,k3⟩
   ·rw [k5] at hb
    rcases hown1 j o' b k1 k2 hb with h|h
    ·have:=R.frm.size; exact .inl (by omega)
    ·exact hXown b h
   ·rw [(hl2 id k2).2.1] at hb
    exact R.own id o1 b k2 k3 hb
  ·intro id hid
   obtain ⟨k1,k2,k3⟩:=R.ext id hid;obtain ⟨j1,j2,j3⟩:=hl2 id k1;exact ⟨j1,by rw [j2]; exact k2,by rw [j3]; exact k3⟩
  ·intro b hb
   rcases himn b hb with h|h|h
   ·exact R.imn b h
   ·have:=R.frm.size; exact .inr (.inl (by omega))
   ·exact .inr (hXown b h)
  ·refine ⟨hfrm.os.trans R.frm.os,hfrm.tape.trans R.frm.tape,hfrm.output.trans R.frm.output,Nat.le_trans R.frm.size hfrm.size,fun k hk hX' => ?_⟩
   refine (hfrm.block k (Nat.lt_of_lt_of_le hk R.frm.size) (fun hx => ?_)).trans (R.frm.block k hk hX');rcases hXown k hx with h|h
   ·omega
   ·exact hX' h
 refine hK v w' E2 ?_ ?_
 ·have:=RM.put (d:=o.dst) (fun k hk=>by rw [hN]; exact h2 k hk) (Rd.map (E:=E1) (E':=E2) (fun b hb=>hb) hτ r v hrv)
  simp only [St.appx];rw [show d=o.dst from h1];exact this
 ·rintro id (h|⟨j,h,e,_⟩)
  ·exact .inl h
  ·exact .inr ⟨j,h,e⟩
end
section
variable {P:Program} {tt:List (Nat × AV)} {hh:Hp} {nn dd:Nat} {g:Option (Nat × Bool)} {l:List AG} {acc:List SD} {K:List SD→St→Prop}
theorem Bn {fo:Operand} {args:List Operand} {f:FuncId} {fi ca argsA argsC:List AV} {hC h' u' h2:Hp} {m m':Nat} {r v:AV} (σ:List (Nat × Nat)) (hc:Dn P f argsC hC m r h' m')
 (h:RG P (⟨⟨some dd,g,.call fo args⟩,v,σ.map (·.1),u',0⟩::acc) l ⟨(dd,v)::tt,h2,nn⟩ K)
 (hmm:m'=m:=by rfl)
 (hv:Cn (Er σ) r=v:=by (simp only [Cn,HI,Cg,Er,F0,JF,IY,List.map_cons,List.map_nil,↓reduceIte,Nat.reduceEqDiff,Nat.reduceBEq,Nat.reduceAdd,Option.map_some,Option.map_none,cond_true,cond_false]; exact rfl)) (hu:F0 (Er σ) h'=u':=by (simp only [Cn,HI,Cg,Er,F0,JF,IY,List.map_cons,List.map_nil,↓reduceIte,Nat.reduceEqDiff,Nat.reduceBEq,Nat.reduceAdd,Option.map_some,Option.map_none,cond_true,cond_false]; exact rfl)) (h2e:u'++hh=h2:=by (simp only [List.cons_append,List.nil_append]; exact rfl))
 (hg:BD ⟨tt,hh,nn⟩ g:=by first|exact True.intro|rfl) (hf:ev ⟨tt,hh,nn⟩ fo=.fn f fi ca:=by rfl)
 (hσ:V6 m σ=true:=by rfl) (hcov:Iw m σ=true:=by rfl) (hlive:(σ.all fun p=>(HV (restr (σ.map (·.1)) hh) (fi++(args.map (ev ⟨tt,hh,nn⟩)++ca))).any (Nat.beq p.1))=true:=by rfl)
 (hargs:(fi++(args.map (ev ⟨tt,hh,nn⟩)++ca)).map (Cn σ)=argsA:=by rfl) (hs:Fy argsA argsC:=by (repeat (first|exact Fy.nil|refine Fy.cons ?_ ?_|exact Iv.nil _|exact Iv.refl _|exact Iv.any _|refine Iv.agg ?_)))
 (hh0:(σ.map fun p=>(p.2,(hl hh p.1).map (Cg σ)))=hC:=by rfl) (hro:(σ.all fun p=>match hl hh p.1 with|some o => !o.ro|none=>true)=true:=by rfl)
 (hkeys:((h'.map (·.1)).all fun i=>Nat.blt i m')=true:=by rfl) (hin:Iw m' (h'.map fun p=>(p.1,p.1))=true:=by rfl) :
 RG P acc (⟨some dd,g,.call fo args⟩::l) ⟨tt,hh,nn⟩ K:=by
 subst hmm;have e1:m' - m'=0:=Nat.sub_self _;have e2:QT σ m' m' nn=Er σ:=by simp [QT]
 have hs':=Yy (st:=⟨tt,hh,nn⟩) (d:=some dd) (g:=g) σ hg hf hσ hcov hlive hargs hs hh0 hro hc hkeys hin (by simp);simp only [e1,e2,hv,hu] at hs';subst h2e;exact RG.step hs' h
theorem Cw {fo:Operand} {args:List Operand} {f:FuncId} {fi ca argsA argsC:List AV} {hC h' u' h2:Hp} {m m' n2:Nat} {r v:AV} (σ:List (Nat × Nat)) (hc:Dn P f argsC hC m r h' m')
 (h:RG P (⟨⟨some dd,g,.call fo args⟩,v,σ.map (·.1),u',1⟩::acc) l ⟨(dd,v)::tt,h2,n2⟩ K)
 (hmm:m'=m+1:=by rfl)
 (hv:Cn ((m,nn)::Er σ) r=v:=by (simp only [Cn,HI,Cg,Er,F0,JF,IY,List.map_cons,List.map_nil,↓reduceIte,Nat.reduceEqDiff,Nat.reduceBEq,Nat.reduceAdd,Option.map_some,Option.map_none,cond_true,cond_false]; exact rfl)) (hu:F0 ((m,nn)::Er σ) h'=u':=by (simp only [Cn,HI,Cg,Er,F0,JF,IY,List.map_cons,List.map_nil,↓reduceIte,Nat.reduceEqDiff,Nat.reduceBEq,Nat.reduceAdd,Option.map_some,Option.map_none,cond_true,cond_false]; exact rfl)) (h2e:u'++hh=h2:=by (simp only [List.cons_append,List.nil_append]; exact rfl)) (hn2:nn+1=n2:=by (simp only [Nat.reduceAdd]; exact rfl))
 (hg:BD ⟨tt,hh,nn⟩ g:=by first|exact True.intro|rfl) (hf:ev ⟨tt,hh,nn⟩ fo=.fn f fi ca:=by rfl)
 (hσ:V6 m σ=true:=by rfl) (hcov:Iw m σ=true:=by rfl) (hlive:(σ.all fun p=>(HV (restr (σ.map (·.1)) hh) (fi++(args.map (ev ⟨tt,hh,nn⟩)++ca))).any (Nat.beq p.1))=true:=by rfl)
 (hargs:(fi++(args.map (ev ⟨tt,hh,nn⟩)++ca)).map (Cn σ)=argsA:=by rfl) (hs:Fy argsA argsC:=by (repeat (first|exact Fy.nil|refine Fy.cons ?_ ?_|exact Iv.nil _|exact Iv.refl _|exact Iv.any _|refine Iv.agg ?_)))
 (hh0:(σ.map fun p=>(p.2,(hl hh p.1).map (Cg σ)))=hC:=by rfl) (hro:(σ.all fun p=>match hl hh p.1 with|some o => !o.ro|none=>true)=true:=by rfl)
 (hkeys:((h'.map (·.1)).all fun i=>Nat.blt i m')=true:=by rfl) (hin:Iw m' (h'.map fun p=>(p.1,p.1))=true:=by rfl) :
 RG P acc (⟨some dd,g,.call fo args⟩::l) ⟨tt,hh,nn⟩ K:=by
 subst hn2;subst hmm;have e1:m+1 - m=1:=Nat.add_sub_cancel_left ..;have e2:QT σ m (m+1) nn=(m,nn)::Er σ:=by simp [QT]
 have hs':=Yy (st:=⟨tt,hh,nn⟩) (d:=some dd) (g:=g) σ hg hf hσ hcov hlive hargs hs hh0 hro hc hkeys hin (by simp);simp only [e1,e2,hv,hu] at hs';subst h2e;exact RG.step hs' h
theorem AaL {fo:Operand} {args:List Operand} {f:FuncId} {fi ca argsA argsC:List AV} {hC h' u' h2:Hp} {m m' n2:Nat} {r v:AV} (σ:List (Nat × Nat)) (hc:Dn P f argsC hC m r h' m')
 (h:RG P (⟨⟨some dd,g,.call fo args⟩,v,σ.map (·.1),u',2⟩::acc) l ⟨(dd,v)::tt,h2,n2⟩ K)
 (hmm:m'=m+2:=by rfl)
 (hv:Cn ((m,nn)::(m+1,nn+1)::Er σ) r=v:=by (simp only [Cn,HI,Cg,Er,F0,JF,IY,List.map_cons,List.map_nil,↓reduceIte,Nat.reduceEqDiff,Nat.reduceBEq,Nat.reduceAdd,Option.map_some,Option.map_none,cond_true,cond_false]; exact rfl)) (hu:F0 ((m,nn)::(m+1,nn+1)::Er σ) h'=u':=by (simp only [Cn,HI,Cg,Er,F0,JF,IY,List.map_cons,List.map_nil,↓reduceIte,Nat.reduceEqDiff,Nat.reduceBEq,Nat.reduceAdd,Option.map_some,Option.map_none,cond_true,cond_false]; exact rfl)) (h2e:u'++hh=h2:=by (simp only [List.cons_append,List.nil_append]; exact rfl)) (hn2:nn+2=n2:=by (simp only [Nat.reduceAdd]; exact rfl))
 (hg:BD ⟨tt,hh,nn⟩ g:=by first|exact True.intro|rfl) (hf:ev ⟨tt,hh,nn⟩ fo=.fn f fi ca:=by rfl)
 (hσ:V6 m σ=true:=by rfl) (hcov:Iw m σ=true:=by rfl) (hlive:(σ.all fun p=>(HV (restr (σ.map (·.1)) hh) (fi++(args.map (ev ⟨tt,hh,nn⟩)++ca))).any (Nat.beq p.1))=true:=by rfl)
 (hargs:(fi++(args.map (ev ⟨tt,hh,nn⟩)++ca)).map (Cn σ)=argsA:=by rfl) (hs:Fy argsA argsC:=by (repeat (first|exact Fy.nil|refine Fy.cons ?_ ?_|exact Iv.nil _|exact Iv.refl _|exact Iv.any _|refine Iv.agg ?_)))
 (hh0:(σ.map fun p=>(p.2,(hl hh p.1).map (Cg σ)))=hC:=by rfl) (hro:(σ.all fun p=>match hl hh p.1 with|some o => !o.ro|none=>true)=true:=by rfl)
 (hkeys:((h'.map (·.1)).all fun i=>Nat.blt i m')=true:=by rfl) (hin:Iw m' (h'.map fun p=>(p.1,p.1))=true:=by rfl) :
 RG P acc (⟨some dd,g,.call fo args⟩::l) ⟨tt,hh,nn⟩ K:=by
 subst hn2;subst hmm;have e1:m+2 - m=2:=Nat.add_sub_cancel_left ..;have e2:QT σ m (m+2) nn=(m,nn)::(m+1,nn+1)::Er σ:=by simp [QT,List.range_succ]
 have hs':=Yy (st:=⟨tt,hh,nn⟩) (d:=some dd) (g:=g) σ hg hf hσ hcov hlive hargs hs hh0 hro hc hkeys hin (by simp);simp only [e1,e2,hv,hu] at hs';subst h2e;exact RG.step hs' h
end
structure I0 where
 N:Nat
 res:List KH
 pre:Bi
 t:Nat
 clo:FuncId
 body:Bi
 deriving Inhabited
def C5 (P:Program) (f:FuncId):Option I0 :=
 match P.funcs[f]? with
 | some fn=>match fn.body with
   | some (.seq a (.seq (.region _ ops false) b)) => bif fn.name == "runtime.NumGoroutine" then none else
     match ops.toList with
     | [⟨some t,.makeFunc (.func g) fi ca,_,_,_,none⟩,⟨none,.defer ⟨.value (.tmp t'),aq,_⟩,_,_,_,none⟩] =>
       bif Nat.beq t t' && fi.isEmpty && aq.isEmpty && Nat.blt t fn.ntmps then
        match AN P fn.ntmps a,AN P fn.ntmps b,AR (fun (r:ResultVar)=>match r with|.tmp t=>some (KH.t t)|.cell a t=>(EG P t).map fun q=>.c a q.1 q.2) fn.results.toList with
        | some x,some y,some r=>some ⟨fn.ntmps,r,x,t,g,y⟩
        | _,_,_=>none
       else none
     | _=>none
   | _=>none
 | none=>none
def ML (P:Program) (g:FuncId):Prop:=OI P g∧∀ (args:Array Value) (w:World),CallsD P g args .returning w fun e u' w'=>e=.returned (.tuple #[])∧u'=.returning∧w'=w
theorem AE {P:Program} {f:FuncId} {F:I0} {args:List AV} {r:AV} (hF:C5 P f=some F) (hidle:ML P F.clo)
 (h:∀ C:EH,Aak C F.N→AW P C F.pre (fun e s=>match e with|.normal=>∀ ds,AW P { C with ds:=ds } F.body (Afy F.res r) ⟨(F.t,.any)::s.t,s.h,s.nx⟩|_=>False) ⟨Js 0 args,[],0⟩) (hlen:args.length≤F.N:=by exact Nat.le_of_ble_eq_true rfl):Ae P f args r:=by
 simp only [C5] at hF;split at hF
 case h_2=>cases hF
 rename_i fn hfn;split at hF
 case h_2=>cases hF
 rename_i a id ops b hb;cases hnm : (fn.name == "runtime.NumGoroutine") with
 | true=>rw [hnm] at hF; cases hF
 | false =>
 rw [hnm,cond_false] at hF;split at hF
 case h_2=>cases hF
 rename_i t g fi ca ty1 pos1 af1 t' aq tys ty2 pos2 af2 hops;cases hcond:(Nat.beq t t' && fi.isEmpty && aq.isEmpty && Nat.blt t fn.ntmps) with
 | false=>rw [hcond] at hF; cases hF
 | true =>
 rw [hcond,cond_true] at hF;simp only [Bool.and_eq_true] at hcond;obtain ⟨⟨⟨q1,q2⟩,q3⟩,q4⟩:=hcond;have q1:=Nat.eq_of_beq_eq_true q1;subst q1;have hfi:fi = #[]:=by simpa using q2
 have has:aq = #[]:=by simpa using q3
 subst hfi has;have q4:t<fn.ntmps:=by simpa [Nat.blt_eq] using q4
 split at hF
 case h_2=>cases hF
 rename_i x y res hx hy hres;simp only [Option.some.injEq] at hF;subst hF;simp only at hlen h hidle;refine ⟨⟨fn,hfn,hnm,by rw [hb]; rfl⟩,?_⟩;intro im w vs hlt hrd
 let E0:CK:=⟨im,fun _=>False,fun _=>undef,fun _=>0⟩
 let C:EH:=⟨fun _=>False,w,fn.ntmps,E0,0,[]⟩
 have hC:Aak C fn.ntmps:=⟨fun _ h=>h,rfl,rfl,rfl⟩;have hvl:vs.length=args.length:=hrd.length
 have hR:EP C E0 ⟨Js 0 args,[],0⟩ { tmps:=vs.toArray++Array.replicate (fn.ntmps - vs.toArray.size) undef,defers:=[] } w:=by
  refine ⟨rfl,?_,fun n => ?_,⟨fun id o h=>h.elim,fun id id' o o' b h=>h.elim,fun id o b h=>h.elim,hlt⟩,fun id h=>h.elim,fun id o b h=>h.elim,fun id h=>absurd h (Nat.not_lt_zero _),fun b h=>h,fun b h=>.inl h,⟨rfl,rfl,rfl,Nat.le_refl _,fun _ _ _=>rfl⟩⟩
  ·show (vs.toArray++Array.replicate (fn.ntmps - vs.toArray.size) undef).size=fn.ntmps
   simp; omega
  ·have:=LN (E:=E0) (w:=w) args vs 0 n (Be.rd _ _ hrd)
   rw [if_pos (Nat.zero_le _),Nat.sub_zero] at this
   have e:(vs.toArray++Array.replicate (fn.ntmps - vs.toArray.size) undef).getD n undef=vs.getD n undef:=by
    simp only [Array.getD_eq_getD_getElem?,List.getD_eq_getElem?_getD,Array.getElem?_append];by_cases hn:n<vs.length
    ·simp [hn]
    ·rw [if_neg (by simpa using hn)]
     rw [List.getElem?_eq_none (by omega)];simp only [Array.getElem?_replicate];split<;>rfl
   show Rd E0 w (Fu (Js 0 args) n) ((vs.toArray++Array.replicate (fn.ntmps - vs.toArray.size) undef).getD n undef);rw [e]; exact this
 refine calls_of_wp_defers hfn hb (wp_seq (wp_mono (h C hC a hx E0 _ w hR) ?_));rintro e a1 w1 ⟨E1,s1,h1,R1⟩;cases e with
 | normal =>
   refine wp_seq ?_;refine wp_region_list ?_;rw [hops];have hd0:a1.defers=[]:=R1.defers
   let cap:Array Value:=ca.map a1.eval
   let v1:Value:=.func (.func g) #[] cap
   let a2:Act:=a1.put (some t) v1
   have hrun1:(execOp a1.eval ⟨some t,.makeFunc (.func g) #[] ca,ty1,pos1,af1,none⟩).run P w1=.ok (.value v1) w1:=by
    simp [execOp,Instr.makeFunc,v1,cap]
   have hev:a2.eval (.tmp t)=v1:=by
    have hsz:=R1.size;simp only [a2,Act.put,Act.eval]
    have:t<a1.tmps.size:=by rw [hsz]; exact q4
    simp [this]
   have hrun2:(execOp a2.eval ⟨none,.defer ⟨.value (.tmp t), #[],tys⟩,ty2,pos2,af2,none⟩).run P w1=.ok (.defer { target:=.fn (.func g) cap,args := #[] }) w1:=by
    simp only [execOp,resolve,hev,v1,Deferred.ofValue,Sem.run_bind,Sem.run_pure,Result.andThen_ok];simp
   have hb2:b.wp P (bodyPostD P fn fun e w'=>∃ v im',e=.returned v∧Dm im' w' r v∧(∀ b,im b→im' b)∧(∀ b,im' b→im b∨w.heap.size≤b)∧(∀ b,im' b→b<w'.heap.size)∧Below w.heap.size w w') ({ a2 with defers:={ target:=.fn (.func g) cap,args := #[] }::a2.defers }.put none undef) w1:=by
    have ha2:a2.defers=[]:=by rw [show a2.defers=a1.defers from TI _ _ _]; exact hd0
    let C':EH:={ C with ds:=[{ target:=.fn (.func g) cap,args := #[] }] }
    have Rp:=R1.put (d:=some t) (fun k hk=>by simp only [Option.some.injEq] at hk; subst hk; exact q4) (v:=.any) (u:=v1) trivial
    have R2:EP C' E1 ⟨(t,.any)::s1.t,s1.h,s1.nx⟩ { a2 with defers:={ target:=.fn (.func g) cap,args := #[] }::a2.defers } w1 :=
     ⟨by simp only [ha2]; rfl,Rp.size,Rp.tm,Rp.heap,Rp.nx,Rp.own,Rp.ext,Rp.imx,Rp.imn,Rp.frm⟩
    refine wp_mono (h1 _ b hy E1 _ w1 R2) ?_;rintro e a' w' ⟨E',s,hq,hR'⟩
    have Am:Ret res r s→Leaves P fn a'.tmps (fun e w'=>∃ v im',e=.returned v∧Dm im' w' r v∧(∀ b,im b→im' b)∧(∀ b,im' b→im b∨w.heap.size≤b)∧(∀ b,im' b→b<w'.heap.size)∧Below w.heap.size w w') a'.defers .returning w':=by
     rintro ⟨r0,r1,h1,h2,h3⟩;have hds:a'.defers=[{ target:=.fn (.func g) cap,args := #[] }]:=hR'.defers;rw [hds];obtain ⟨⟨gn,hgn,hgname,hgb⟩,hid⟩:=hidle;refine leaves_cons (f:=g) (args := #[]++cap) (by simp) ?_ ?_
     ·have hcf:(callFunc g (#[]++cap)).run P w'=.ok (.enter g (#[]++cap)) w':=Jt hgn hgname hgb
      simp only [invoke];exact hcf
     ·refine (hid _ w').mono ?_
      rintro e u' w'' ⟨rfl,rfl,rfl⟩;obtain ⟨v,hv,hr⟩:=KL hR' hres h1;refine ⟨v,hv,v,imV false E' s.h,rfl,h3 _ _ _ (HS hR'.heap 4 _ _ _ hr h2),fun b hb=>.inl (hR'.imx b hb),?_,?_,?_⟩
      ·rintro b (hb|⟨id,o,k1,k2,k3,_⟩)
       ·rcases hR'.imn b hb with h|h|h
        ·exact .inl h
        ·exact .inr h
        ·exact h.elim
       ·rcases hR'.own id o b k1 k2 k3 with h|h
        ·exact .inr h
        ·exact h.elim
      ·rintro b (hb|⟨id,o,k1,k2,k3,_⟩)
       ·exact hR'.heap.lt b hb
       ·exact hR'.heap.blk_lt k1 k2 k3
      ·exact ⟨hR'.frm.os,hR'.frm.tape,hR'.frm.output,hR'.frm.size,fun k hk=>hR'.frm.block k hk (fun h=>h)⟩
    cases e with
    | normal=>exact Am hq
    | ret=>exact Am hq
    | _=>exact hq.elim
   refine wpList_step fun K hK => ?_;rw [if_pos (by rfl)];unfold Oper.wp;rw [hrun1,Oper.upon_value];refine hK _ _ ?_;refine wpList_step fun K2 hK2 => ?_;rw [if_pos (by rfl)];unfold Oper.wp;have hrun2':=hrun2;simp only [a2] at hrun2';rw [hrun2',Oper.upon_defer];refine hK2 _ _ ?_;exact hb2
 | _=>exact h1.elim
abbrev Kd{F:I0}(A:I0)(_:A=F:=by dsimp only[Tt,Nn,Bo,Ii,Jj,Mv,Lf,Lt,Fa,Ex,Le,Ia,Sr,Ca,Oo,Ss,So,Cd,Bt,Bk,Mn,Bx,Cc,Gg,Za,Zc,List.map]<;>exact rfl):I0:=F
set_option linter.unusedSimpArgs false
section
variable {P:Program} {st:St} {d:Option Nat} {g:Option (Nat × Bool)}
theorem Aj0 {t:TypeId} {x y:Operand} {s:Rdg} {k:IntKind} {n:Int} {r:AV} (hg:BD st g) (hx:ev st x=.sem s) (hy:ev st y=.lit (.int k n))
 (hs:∀ im w v,s.p im w v→∃ u,(Instr.lookup t v (.int k n) false).run P w=.ok u w∧Dm im w r u):BS P st ⟨⟨d,g,.lookG t x y⟩,r,[],[],0⟩ :=
  Bc [] hg fun o C E ac w sx hlow R hr hh=>by
 have h1:=hr x (by simp [Ci.opds]);have h2:=AX (hr y (by simp [Ci.opds])) hy;rw [hx] at h1;obtain ⟨u,hu,hR⟩:=hs _ _ _ h1;obtain ⟨dst,o,ty,pos,after,guard⟩:=o;obtain rfl:=AL hlow;refine ⟨u,?_,Dm.rd _ _ hR⟩;simp only [execOp,h2,Sem.run_bind,hu,Result.andThen_ok,Sem.run_pure]
end
section
variable {P:Program} {tt:List (Nat × AV)} {hh:Hp} {nn dd:Nat} {g:Option (Nat × Bool)} {l:List AG} {acc:List SD} {K:List SD→St→Prop}
theorem Aj1 {t:TypeId} {x y:Operand} {s:Rdg} {k:IntKind} {n:Int} {r:AV} (hs:∀ im w v,s.p im w v→∃ u,(Instr.lookup t v (.int k n) false).run P w=.ok u w∧Dm im w r u)
 (h:RG P (⟨⟨some dd,g,.lookG t x y⟩,r,[],[],0⟩::acc) l ⟨(dd,r)::tt,hh,nn⟩ K) (hg:BD ⟨tt,hh,nn⟩ g:=by first|exact True.intro|rfl) (hx:ev ⟨tt,hh,nn⟩ x=.sem s:=by rfl) (hy:ev ⟨tt,hh,nn⟩ y=.lit (.int k n):=by rfl):RG P acc (⟨some dd,g,.lookG t x y⟩::l) ⟨tt,hh,nn⟩ K:=RG.step (Aj0 hg hx hy hs) h
end
section
variable {P:Program} {st:St} {d:Option Nat} {g:Option (Nat × Bool)}
theorem Ahf {α:Type} (X us:List α) (A C L:Nat) (hu:us.length=C) (h1:A+C≤L) (h2:L≤X.length):(X.take A++us++X.drop (A+C)).take L=(X.take L).take A++(us++(X.take L).drop (A+C)):=by
 have hl:(X.take A++us).length=A+C:=by simp; omega
 rw [List.take_append,hl,List.take_of_length_le (by omega),List.take_take,Nat.min_eq_left (by omega),List.drop_take,List.append_assoc]
theorem Aj2 {sz id a n1 b n2 c:Nat} {x y:Operand} {ob:OB} (hg:BD st g) (hs:ev st x=.osl id a n1) (hx:ev st y=.osl id b n2) (ho:hl st.h id=some ob) (hrow:ob.row=true) (hro:ob.ro=false) (hsz:ob.sz=sz)
 (hc:min n1 n2=c) (ha:a+n1≤ob.es.length) (hb:b+n2≤ob.es.length) :
 BS P st ⟨⟨d,g,.copy sz x y⟩,.lit (.int .i64 c),[id],[(id,some { ob with es:=ob.es.take a++((ob.es.drop b).take c++ob.es.drop (a+c)) })],0⟩:=by
 intro N ops o hlow C E ac w sx hN R hag hh hnw K Q hK;rw [if_pos (C2 hlow R hag hg)];obtain ⟨h1,h2,h3,h4⟩:=Bp hlow;have hsv:=Cv R hag (x:=x) (by simp [Ci.opds]);have hxv:=Cv R hag (x:=y) (by simp [Ci.opds]);rw [hs] at hsv; rw [hx] at hxv;obtain ⟨hl1,b1,len1,cap1,hv1,hle1,hsv⟩:=hsv;obtain ⟨_,b2,len2,cap2,hv2,hle2,hxv⟩:=hxv;have ho':hl sx.h id=some ob:=by rw [hh id (.inr (by simp))]; exact ho
 obtain ⟨k1,k2⟩:=R.heap.ob id ob hl1 ho';rw [hrow] at k2;obtain ⟨vs,a0,cap,j1,j2,j3,j4,j5⟩:=k2;obtain ⟨dst,op,ty,pos,after,guard⟩:=o;obtain ⟨t,t',e,gg,rfl,het,hsz'⟩:=AL h3;obtain ⟨dd,i,q1,q2,q3,_⟩:=D9 hsz';have hsize:(sizeOf e).run P w=.ok sz w:=by simp [sizeOf,typeInfo,q2,q3]
 have hut:P.underlying t=some (.slice e):=Ik het;rw [hv2] at hv1;simp only [Value.slice.injEq,Option.some.injEq,Addr.mk.injEq,and_true] at hv1;obtain ⟨rfl,rfl,rfl⟩:=hv1;unfold Oper.wp;rcases j2.2 with ⟨hv0,h0⟩|⟨g',c',cur,hvv,_,hcur,hnc,hcm,hcs,htake⟩
 ·have hj:=hv2.symm.trans hv0
  cases hj
 ·have hj:=hv2.symm.trans hvv
  simp only [Value.slice.injEq,Option.some.injEq,Addr.mk.injEq,and_true] at hj;obtain ⟨rfl,rfl,rfl⟩:=hj;have hbk:Bz (E.val id)=some b2:=by rw [hv2]; rfl
  have hsz1:E.sz id=ob.sz:=k1;rw [hsz1,hsz] at hsv hxv;rw [hsz] at hcs htake j3;have hclen:(cur.toList.length)=cap2 * sz:=by rw [← hcs]; simp
  have hvt:vs=cur.toList.take (ob.es.length * sz):=htake.symm;have hvl:vs.length=ob.es.length * sz:=j3.length;have hc1:c≤n1:=hc ▸ Nat.min_le_left _ _;have hc2:c≤n2:=hc ▸ Nat.min_le_right _ _;have m1:(b+c) * sz≤ob.es.length * sz:=Nat.mul_le_mul_right _ (by omega);have m2:(a+c) * sz≤ob.es.length * sz:=Nat.mul_le_mul_right _ (by omega);have m3:ob.es.length * sz≤cap2 * sz:=Nat.mul_le_mul_right _ hnc;rw [Nat.add_mul] at m1 m2;obtain ⟨us,hus⟩:∃ us,us=(vs.drop (b * sz)).take (c * sz):=⟨_,rfl⟩;have hul:us.length=c * sz:=by rw [hus]; simp; omega
  have huo:∀ u ∈ us,u.oneCell'=true:=fun u hu=>by rw [hus] at hu; exact j4 u (List.mem_of_mem_drop (List.mem_of_mem_take hu))
  have hrd:AZ E.im w sz ((ob.es.drop b).take c) us:=by rw [hus]; exact AZ.take c (AZ.drop b j3)
  have hcell:∀ j v,us[j]? = some v→w.cell? ((⟨b2,b * sz,none⟩:Addr).add j)=some v:=fun j v hv=>by
   rw [CC];have hjl:j<c * sz:=by rw [← hul]; exact (List.getElem?_eq_some_iff.1 hv).1
   rw [hus,List.getElem?_take,if_pos hjl,List.getElem?_drop,hvt,List.getElem?_take,if_pos (by omega)] at hv;simp only [World.cell?,hcur];rw [Array.getElem?_toList] at hv;exact hv
  have hfc:=run_firstCells_some (P:=P) (w:=w) sz c ⟨b2,b * sz,none⟩ n2 (cap2 - b) us hul hcell;have hmin:Nat.min n2 n1=c:=by rw [← hc]; exact Nat.min_comm _ _
  have hmin':Nat.min n1 n2=c:=hc;have hst:=run_storeCells_at P b2 (a * sz) ob.e us 0 cur w hcur (by rw [Nat.add_zero,hul]; have:cur.size=cap2 * sz:=hcs; omega) huo;simp only [Nat.add_zero] at hst;generalize hW:(cur.toList.take (a * sz)++us++cur.toList.drop (a * sz+us.length)).toArray=W at hst
  have hrun:(execOp ac.eval ⟨dst,.call { callee:=.builtin .copy,args := #[x,y],argTypes := #[t,t'] },ty,pos,after,guard⟩).run P w=.ok (.value (.int .i64 c)) (w.setRow b2 W):=by
   simp only [execOp,resolve,Sem.run_bind,Sem.run_pure,Result.andThen_ok,invoke,builtin,List.map_toArray,List.map_cons,List.map_nil,hsv,hxv];simp [Builtin.copy_,run_underlying hut,Builtin.lenOf,hsize,hmin,hmin',hfc,hst,goInt]
  rw [hrun,Oper.upon_value];refine hK _ _ E ?_ (fun id h=>.inl h);have hgr:w.grownBy (w.setRow b2 W) (some b2):=E4;have hnim:¬ E.im b2:=fun h=>by have:=(R.heap.im id ob b2 hl1 ho' hbk).1 h; rw [hro] at this; cases this
  have hw:∀ k,E.im k→(w.setRow b2 W).heap[k]? = w.heap[k]? := fun k hk=>hgr.block k (R.heap.lt k hk) (fun e=>by simp at e; subst e; exact hnim hk);have hWl:W.toList=cur.toList.take (a * sz)++us++cur.toList.drop (a * sz+us.length):=by rw [← hW]
  have hlen':(ob.es.take a++((ob.es.drop b).take c++ob.es.drop (a+c))).length=ob.es.length:=by simp; omega
  have hob:G6 E (w.setRow b2 W) id { ob with es:=ob.es.take a++((ob.es.drop b).take c++ob.es.drop (a+c)) }:=by
   refine ⟨k1,?_⟩;simp only [hrow,cond_true]
   have hE:AZ E.im w ob.sz (ob.es.take a++((ob.es.drop b).take c++ob.es.drop (a+c))) (vs.take (a * sz)++(us++vs.drop ((a+c) * sz))):=by
    rw [hsz];exact (AZ.take a j3).append (hrd.append (AZ.drop (a+c) j3))
   have hl2:=hE.length;rw [hlen'] at hl2;refine ⟨vs.take (a * sz)++(us++vs.drop ((a+c) * sz)),some ⟨b2,0,none⟩,cap2,by simp only [hlen']; exact hv2,⟨?_,.inr ⟨b2,cap2,W,?_,Nat.zero_le _,setRow_heap w b2 cur W ob.e (0,0) hcur,by simp only [hlen']; exact hnc,hcm,?_,?_⟩⟩,AZ.mono (fun _ h=>h) hw _ _ _ hE,?_,by simp only [hlen']; exact j5⟩
   ·simp only [hlen']; exact hl2
   ·simp only [hlen']; exact hv2
   ·rw [hsz,← hcs]; have:=congrArg List.length hWl; simp at this ⊢; omega
   ·simp only [hlen']
    rw [hWl,hvt,hsz,hul];rw [Nat.add_mul];exact Ahf _ _ _ _ _ hul (by omega) (by omega)
   ·intro u hu
    rcases List.mem_append.1 hu with hu|hu
    ·exact j4 u (List.mem_of_mem_take hu)
    ·rcases List.mem_append.1 hu with hu|hu
     ·exact huo u hu
     ·exact j4 u (List.mem_of_mem_drop hu)
  have:=(R.upd hl1 ho' hro hbk hgr hob hro).put (d:=dst) (fun k hk=>by rw [hN]; exact h2 k hk) (v:=.lit (.int .i64 c)) (u:=.int .i64 c) rfl
  simp only [St.appx];rw [show d=dst from h1];exact this
end
section
variable {P:Program} {tt:List (Nat × AV)} {hh:Hp} {nn dd:Nat} {g:Option (Nat × Bool)} {l:List AG} {acc:List SD} {K:List SD→St→Prop}
theorem Aeh {sz id a n1 b n2:Nat} {x y:Operand} {ob:OB} (c:Nat) (es:List (List AV)) (hc:min n1 n2=c) (ha:a+n1≤ob.es.length) (hb:b+n2≤ob.es.length) (he:ob.es.take a++((ob.es.drop b).take c++ob.es.drop (a+c))=es)
 (h:RG P (⟨⟨some dd,g,.copy sz x y⟩,.lit (.int .i64 c),[id],[(id,some { ob with es:=es })],0⟩::acc) l ⟨(dd,.lit (.int .i64 c))::tt,(id,some { ob with es:=es })::hh,nn⟩ K)
 (hg:BD ⟨tt,hh,nn⟩ g:=by first|exact True.intro|rfl) (hs:ev ⟨tt,hh,nn⟩ x=.osl id a n1:=by rfl) (hx:ev ⟨tt,hh,nn⟩ y=.osl id b n2:=by rfl) (ho:hl hh id=some ob:=by rfl) (hrow:ob.row=true:=by rfl) (hro:ob.ro=false:=by rfl) (hsz:ob.sz=sz:=by rfl):RG P acc (⟨some dd,g,.copy sz x y⟩::l) ⟨tt,hh,nn⟩ K:=by
 subst he;exact RG.step (Aj2 hg hs hx ho hrow hro hsz hc ha hb) h
end
section
variable {P:Program} {st:St} {d:Option Nat} {g:Option (Nat × Bool)}
theorem Aj3 {sz id:Nat} {x y:Operand} {ob:OB} {av:AV} {news:List (List AV)} (rd:List Nat) (hg:BD st g) (hs:ev st x=.own id) (ho:hl st.h id=some ob) (hrow:ob.row=true) (hsz:ob.sz=sz) (hes:ob.es=[])
 (hx:ev st y=av) (hn:G9 (restr rd st.h) sz av=some news) (hid:id ∈ rd) :
 BS P st ⟨⟨d,g,.copy sz x y⟩,.lit (.int .i64 0),rd,[],0⟩:=by
 intro N ops o hlow C E ac w sx hN R hag hh hnw K Q hK;rw [if_pos (C2 hlow R hag hg)];obtain ⟨h1,h2,h3,h4⟩:=Bp hlow;have hsv:=Cv R hag (x:=x) (by simp [Ci.opds]);have hxv:=Cv R hag (x:=y) (by simp [Ci.opds]);rw [hs] at hsv; rw [hx] at hxv;obtain ⟨hl1,_,hsv⟩:=hsv;have ho':hl sx.h id=some ob:=by rw [hh id (.inl hid)]; exact ho
 have H0:Cr E w (restr rd st.h):=R.heap.restr (fun id hid=>hh id (.inl hid));obtain ⟨k1,k2⟩:=R.heap.ob id ob hl1 ho';rw [hrow] at k2;obtain ⟨vs,a0,cap,j1,j2,j3,j4,j5⟩:=k2;obtain ⟨ax,cx,us,x1,x2,x3,x4,x5,x6,x7⟩:=S5 H0 hn hxv;obtain ⟨dst,op,ty,pos,after,guard⟩:=o;obtain ⟨t,t',e,gg,rfl,het,hsz'⟩:=AL h3;obtain ⟨dd,i,q1,q2,q3,_⟩:=D9 hsz';have hsize:(sizeOf e).run P w=.ok sz w:=by simp [sizeOf,typeInfo,q2,q3]
 have hut:P.underlying t=some (.slice e):=Ik het;rw [hes] at j1
 have hfc:∀ v:Value,(v=.slice ax news.length cx)→(Builtin.firstCells sz 0 v).run P w=.ok #[] w:=fun v hv=>by
  subst hv;cases ax with
  | none=>exact run_firstCells_none _ _ _ _ _
  | some ad=>exact run_firstCells_some (P:=P) (w:=w) sz 0 ad news.length cx [] (by simp) (by simp)
 have hrun:(execOp ac.eval ⟨dst,.call { callee:=.builtin .copy,args := #[x,y],argTypes := #[t,t'] },ty,pos,after,guard⟩).run P w=.ok (.value (.int .i64 0)) w:=by
  simp only [execOp,resolve,Sem.run_bind,Sem.run_pure,Result.andThen_ok,invoke,builtin,List.map_toArray,List.map_cons,List.map_nil,hsv,j1,x1];cases a0<;>simp [Builtin.copy_,run_underlying hut,Builtin.lenOf,hsize,hfc _ rfl,goInt,storeCells]
 unfold Oper.wp;rw [hrun,Oper.upon_value];refine hK _ _ E ?_ (fun id h=>.inl h)
 have:=R.put (d:=dst) (fun k hk=>by rw [hN]; exact h2 k hk) (v:=.lit (.int .i64 0)) (u:=.int .i64 0) rfl
 simp only [St.appx,List.nil_append];rw [show d=dst from h1];exact this
end
section
variable {P:Program} {tt:List (Nat × AV)} {hh:Hp} {nn dd:Nat} {g:Option (Nat × Bool)} {l:List AG} {acc:List SD} {K:List SD→St→Prop}
theorem Aei {sz id:Nat} {x y:Operand} {ob:OB} {av:AV} {news:List (List AV)} (rd:List Nat) (hid:id ∈ rd) (hes:ob.es=[])
 (h:RG P (⟨⟨some dd,g,.copy sz x y⟩,.lit (.int .i64 0),rd,[],0⟩::acc) l ⟨(dd,.lit (.int .i64 0))::tt,hh,nn⟩ K)
 (hg:BD ⟨tt,hh,nn⟩ g:=by first|exact True.intro|rfl) (hs:ev ⟨tt,hh,nn⟩ x=.own id:=by rfl) (hx:ev ⟨tt,hh,nn⟩ y=av:=by rfl) (ho:hl hh id=some ob:=by rfl) (hn:G9 (restr rd hh) sz av=some news:=by rfl) (hrow:ob.row=true:=by rfl) (hsz:ob.sz=sz:=by rfl):RG P acc (⟨some dd,g,.copy sz x y⟩::l) ⟨tt,hh,nn⟩ K :=
  RG.step (Aj3 rd hg hs ho hrow hsz hes hx hn hid) h
end
theorem CN (es:List (List AV)) (hb:es.length≤100000000000):Ae Tryz.prog 64 [.sl 1 es] (.sl 1 es):=by
 refine IR CU (Nat.le_of_ble_eq_true rfl) fun im w vs hlt hrd => ?_;obtain ⟨v,rest,rfl,hv,hrest⟩:=hrd;have hv':=hv;obtain ⟨a,cap,vs',rfl,hle,hnil,hmax,hat,h1s,hrd⟩:=hv';have hrest':rest=[]:=hrest;subst hrest';cases a with
 | none =>
   have hc:=hnil rfl;subst hc;have hes:es=[]:=List.eq_nil_of_length_eq_zero (by omega);subst hes;refine ⟨[.lit (.slice none 0 0)],⟨_,[],rfl,rfl,rfl⟩,fun C hC _ _ => ?_⟩;refine AI ?_;refine AH (A1 ?_);refine Il Tryz.underlying23 (A1 ?_);refine Ak ⟨rfl,?_⟩;refine AI ?_;exact ⟨_,_,rfl,rfl,Bl.nil _⟩
 | some x =>
   refine ⟨[.lit (.slice (some x) es.length cap)],⟨_,[],rfl,rfl,rfl⟩,fun C hC hw0 him => ?_⟩;refine AI ?_;refine AH (A1 ?_);refine Il Tryz.underlying23 (A1 ?_);refine Ak ⟨rfl,?_⟩;refine AI ?_;refine DM (S3 (n:=0) (av:=.sl 1 es) hC rfl (by rw [hw0,him]; exact hv) (by rw [hw0,him]; exact hlt)) ?_;refine AI ?_;refine AH (A1 ?_);refine Hb ?_;refine A1 ?_;refine OX ?_ ?_
   ·simp only [Ep,List.length_nil,Nat.zero_add]; omega
   refine A1 ?_;refine Ak ⟨rfl,?_⟩;refine AI ?_;exact ⟨_,_,rfl,rfl,Bl.refl _⟩
theorem Uf (es:List (List AV)) (hb:es.length≤100000000000):Ae Tryz.prog 175 [.sl 1 es] (.sl 1 es):=by
 refine IR Iq (Nat.le_of_ble_eq_true rfl) fun im w vs hlt hrd => ?_;obtain ⟨v,rest,rfl,hv,hrest⟩:=hrd;have hv':=hv;obtain ⟨a,cap,vs',rfl,hle,hnil,hmax,hat,h1s,hrd⟩:=hv';have hrest':rest=[]:=hrest;subst hrest';cases a with
 | none =>
   have hc:=hnil rfl;subst hc;have hes:es=[]:=List.eq_nil_of_length_eq_zero (by omega);subst hes;refine ⟨[.lit (.slice none 0 0)],⟨_,[],rfl,rfl,rfl⟩,fun C hC _ _ => ?_⟩;refine AI ?_;refine AH (A1 ?_);refine Il Tryz.underlying38 (A1 ?_);refine Ak ⟨rfl,?_⟩;refine AI ?_;exact ⟨_,_,rfl,rfl,Bl.nil _⟩
 | some x =>
   refine ⟨[.lit (.slice (some x) es.length cap)],⟨_,[],rfl,rfl,rfl⟩,fun C hC hw0 him => ?_⟩;refine AI ?_;refine AH (A1 ?_);refine Il Tryz.underlying38 (A1 ?_);refine Ak ⟨rfl,?_⟩;refine AI ?_;refine DM (S3 (n:=0) (av:=.sl 1 es) hC rfl (by rw [hw0,him]; exact hv) (by rw [hw0,him]; exact hlt)) ?_;refine AI ?_;refine AH (A1 ?_);refine Hb ?_;refine A1 ?_;refine OX ?_ ?_
   ·simp only [Ep,List.length_nil,Nat.zero_add]; omega
   refine A1 ?_;refine Ak ⟨rfl,?_⟩;refine AI ?_;exact ⟨_,_,rfl,rfl,Bl.refl _⟩
theorem AcK (es:List (List AV)) (hb:es.length≤100000000000):Ae Tryz.prog 176 [.sl 3 es] (.sl 3 es):=by
 refine IR GJ (Nat.le_of_ble_eq_true rfl) fun im w vs hlt hrd => ?_;obtain ⟨v,rest,rfl,hv,hrest⟩:=hrd;have hv':=hv;obtain ⟨a,cap,vs',rfl,hle,hnil,hmax,hat,h1s,hrd⟩:=hv';have hrest':rest=[]:=hrest;subst hrest';cases a with
 | none =>
   have hc:=hnil rfl;subst hc;have hes:es=[]:=List.eq_nil_of_length_eq_zero (by omega);subst hes;refine ⟨[.lit (.slice none 0 0)],⟨_,[],rfl,rfl,rfl⟩,fun C hC _ _ => ?_⟩;refine AI ?_;refine AH (A1 ?_);refine Il Tryz.underlying41 (A1 ?_);refine Ak ⟨rfl,?_⟩;refine AI ?_;exact ⟨_,_,rfl,rfl,Bl.nil _⟩
 | some x =>
   refine ⟨[.lit (.slice (some x) es.length cap)],⟨_,[],rfl,rfl,rfl⟩,fun C hC hw0 him => ?_⟩;refine AI ?_;refine AH (A1 ?_);refine Il Tryz.underlying41 (A1 ?_);refine Ak ⟨rfl,?_⟩;refine AI ?_;refine DM (S3 (n:=0) (av:=.sl 3 es) hC rfl (by rw [hw0,him]; exact hv) (by rw [hw0,him]; exact hlt)) ?_;refine AI ?_;refine AH (A1 ?_);refine Hb ?_;refine A1 ?_;refine OX ?_ ?_
   ·simp only [Ep,List.length_nil,Nat.zero_add]; omega
   refine A1 ?_;refine Ak ⟨rfl,?_⟩;refine AI ?_;exact ⟨_,_,rfl,rfl,Bl.refl _⟩
theorem AaM (es:List (List AV)) (hb:es.length≤100000000000):Ae Tryz.prog 82 [.sl 7 es] (.sl 7 es):=by
 refine IR He (Nat.le_of_ble_eq_true rfl) fun im w vs hlt hrd => ?_;obtain ⟨v,rest,rfl,hv,hrest⟩:=hrd;have hv':=hv;obtain ⟨a,cap,vs',rfl,hle,hnil,hmax,hat,h1s,hrd⟩:=hv';have hrest':rest=[]:=hrest;subst hrest';cases a with
 | none =>
   have hc:=hnil rfl;subst hc;have hes:es=[]:=List.eq_nil_of_length_eq_zero (by omega);subst hes;refine ⟨[.lit (.slice none 0 0)],⟨_,[],rfl,rfl,rfl⟩,fun C hC _ _ => ?_⟩;refine AI ?_;refine AH (A1 ?_);refine Il Tryz.underlying24 (A1 ?_);refine Ak ⟨rfl,?_⟩;refine AI ?_;exact ⟨_,_,rfl,rfl,Bl.nil _⟩
 | some x =>
   refine ⟨[.lit (.slice (some x) es.length cap)],⟨_,[],rfl,rfl,rfl⟩,fun C hC hw0 him => ?_⟩;refine AI ?_;refine AH (A1 ?_);refine Il Tryz.underlying24 (A1 ?_);refine Ak ⟨rfl,?_⟩;refine AI ?_;refine DM (S3 (n:=0) (av:=.sl 7 es) hC rfl (by rw [hw0,him]; exact hv) (by rw [hw0,him]; exact hlt)) ?_;refine AI ?_;refine AH (A1 ?_);refine Hb ?_;refine A1 ?_;refine OX ?_ ?_
   ·simp only [Ep,List.length_nil,Nat.zero_add]; omega
   refine A1 ?_;refine Ak ⟨rfl,?_⟩;refine AI ?_;exact ⟨_,_,rfl,rfl,Bl.refl _⟩
def Aw (a b:Nat):Bool:=a ||| b == b
theorem Alq (a b:Nat) (ha:a<18446744073709551616) (hb:b<18446744073709551616):(bits .andNot .u64 (a:Int) (b:Int) == 0)=Aw a b:=by
 rw [u64_andNot_nat a b ha hb];have e:18446744073709551615 - b=2 ^ 64 - (b+1):=by omega
 rw [Bool.eq_iff_iff,Aw];simp only [beq_iff_eq];constructor
 ·intro h
  have h0:a &&& (18446744073709551615 - b)=0:=by omega
  apply Nat.eq_of_testBit_eq;intro i;rw [Nat.testBit_or]
  have:=congrArg (Nat.testBit · i) h0
  simp only [Nat.testBit_and,Nat.zero_testBit] at this;rw [e,Nat.testBit_two_pow_sub_succ (by omega)] at this;by_cases hi:i<64
  ·cases ha':a.testBit i<;>cases hb':b.testBit i<;>simp_all
  ·have h1:a.testBit i=false:=Nat.testBit_lt_two_pow (Nat.lt_of_lt_of_le ha (by
    have:(2:Nat) ^ 64≤2 ^ i:=Nat.pow_le_pow_right (by omega) (by omega)
    omega))
   simp [h1]
 ·intro h
  have h0:a &&& (18446744073709551615 - b)=0:=by
   apply Nat.eq_of_testBit_eq;intro i
   have:=congrArg (Nat.testBit · i) h
   simp only [Nat.testBit_or] at this;rw [Nat.testBit_and,e,Nat.testBit_two_pow_sub_succ (by omega),Nat.zero_testBit];cases ha':a.testBit i<;>cases hb':b.testBit i<;>simp_all
  rw [h0]; rfl
theorem C6 (a b:Nat) (ha:a<18446744073709551616) (hb:b<18446744073709551616):a ||| b<18446744073709551616:=Nat.or_lt_two_pow (n:=64) ha hb
theorem Yz (l k:Nat):l / 2 ^ k / 2=l / 2 ^ (k+1):=by rw [Nat.div_div_eq_div_mul,Nat.pow_succ]
theorem AcL {a i:Nat} (ha:a<18446744073709551616) (hi:64≤i):a.testBit i=false:=Nat.testBit_lt_two_pow (Nat.lt_of_lt_of_le ha (by
 have:(2:Nat) ^ 64≤2 ^ i:=Nat.pow_le_pow_right (by omega) (by omega)
 omega))
theorem JG {a b:Nat} (ha:a<18446744073709551616):Aw a b=true↔∀ i,i<64→a.testBit i=true→b.testBit i=true:=by
 rw [Aw,beq_iff_eq];constructor
 ·intro h i _ hi
  rw [← h,Nat.testBit_or,hi]; rfl
 ·intro h
  apply Nat.eq_of_testBit_eq;intro i;rw [Nat.testBit_or];by_cases hi:i<64
  ·have:=h i hi
   cases ha':a.testBit i<;>cases hb':b.testBit i<;>simp_all
  ·rw [AcL ha (by omega)]; simp
theorem wk {C:EH} {N:Nat} {s s':St} (hC:Aak C N) (σ:List (Nat × Nat)) (L:List Nat) (n:Nat) (e:EQ σ L n s=s':=by rfl) (h:V6 n σ=true:=by rfl):Ki C s s':=TG σ L n h (fun i hi=>absurd hi (by rw [hC.m]; omega)) e
def B5 (xs ys:List Int):Bool:=xs == ys
def Ix (a b:Fx):Bool:=(a.neg == b.neg) && (B5 a.top b.top && B5 a.bot b.bot)
theorem I1 (a b:Fx):Ix a b=true↔a=b:=by
 obtain ⟨n,t,b⟩:=a;rename_i b2;obtain ⟨n',t',b'⟩:=b2;simp [Ix,B5]
mutual
def HW:Al→Al→Bool
 | .mk s sh cs,.mk s2 sh2 cs2=>(s == s2) && (B5 sh sh2 && CZ cs cs2)
def CZ:List Ah→List Ah→Bool
 | [],[]=>true
 | c::cs,d::ds=>I2 c d && CZ cs ds
 | _,_=>false
def I2:Ah→Ah→Bool
 | .mk l k n c ins,.mk l2 k2 n2 c2 ins2=>(l == l2) && ((k == k2) && ((c == c2) && (Ix n n2 && C0 ins ins2)))
def C0:List Al→List Al→Bool
 | [],[]=>true
 | c::cs,d::ds=>HW c d && C0 cs ds
 | _,_=>false
end
mutual
theorem QU:∀ (A B:Al),HW A B=true↔A=B
 | .mk s sh cs,.mk s2 sh2 cs2=>by
   have:=NJ cs cs2
   simp only [HW,Bool.and_eq_true,this,beq_iff_eq,B5,Al.mk.injEq]
theorem NJ:∀ (cs ds:List Ah),CZ cs ds=true↔cs=ds
 | [],[]=>by simp [CZ]
 | [],_::_=>by simp [CZ]
 | _::_,[]=>by simp [CZ]
 | c::cs,d::ds=>by
   have h1:=AfG c d;have h2:=NJ cs ds;simp only [CZ,Bool.and_eq_true,h1,h2,List.cons.injEq]
theorem AfG:∀ (c d:Ah),I2 c d=true↔c=d
 | .mk l k n c ins,.mk l2 k2 n2 c2 ins2=>by
   have h1:=NK ins ins2;simp only [I2,Bool.and_eq_true,h1,I1,beq_iff_eq,Ah.mk.injEq];constructor
   ·rintro ⟨h1,h2,h3,h4,h5⟩; exact ⟨h1,h2,h4,h3,h5⟩
   ·rintro ⟨h1,h2,h3,h4,h5⟩; exact ⟨h1,h2,h4,h3,h5⟩
theorem NK:∀ (cs ds:List Al),C0 cs ds=true↔cs=ds
 | [],[]=>by simp [C0]
 | [],_::_=>by simp [C0]
 | _::_,[]=>by simp [C0]
 | c::cs,d::ds=>by
   have h1:=QU c d;have h2:=NK cs ds;simp only [C0,Bool.and_eq_true,h1,h2,List.cons.injEq]
end
theorem AcM (A:Al):HW A A=true:=(QU A A).2 rfl
theorem AcN (cs ds:List Ah) (h:cs.length≠ds.length):CZ cs ds=false:=by
 cases e:CZ cs ds
 ·rfl
 ·exact absurd (congrArg List.length ((NJ cs ds).1 e)) h
theorem AcO (cs ds:List Al) (h:cs.length≠ds.length):C0 cs ds=false:=by
 cases e:C0 cs ds
 ·rfl
 ·exact absurd (congrArg List.length ((NK cs ds).1 e)) h
def LS:Nat:=18446744073709551615
mutual
def Pj (o:Nat):Al→Al
 | .mk s sh cs=>if Aw s o=true then .mk s sh (Lc o cs) else .mk LS [] []
def Lc (o:Nat):List Ah→List Ah
 | []=>[]
 | c::cs=>Ug o c::Lc o cs
def Ug (o:Nat):Ah→Ah
 | .mk l k n ch ins=>if Aw l o=true then .mk l k n ch (Ld o ins) else .mk LS 0 ⟨false,[],[]⟩ 0 []
def Ld (o:Nat):List Al→List Al
 | []=>[]
 | a::xs=>Pj o a::Ld o xs
end
mutual
def AJ (o:Nat):Al→Al→Bool
 | .mk s sh cs,.mk s2 sh2 cs2=>if Aw s o=true∧Aw s2 o=true then (s == s2) && (B5 sh sh2 && Ay o cs cs2) else Aw s o == Aw s2 o
def Ay (o:Nat):List Ah→List Ah→Bool
 | [],[]=>true
 | c::cs,d::ds=>BN o c d && Ay o cs ds
 | _,_=>false
def BN (o:Nat):Ah→Ah→Bool
 | .mk l k n c ins,.mk l2 k2 n2 c2 ins2=>if Aw l o=true∧Aw l2 o=true then (l == l2) && ((k == k2) && ((c == c2) && (Ix n n2 && Bq o ins ins2))) else Aw l o == Aw l2 o
def Bq (o:Nat):List Al→List Al→Bool
 | [],[]=>true
 | c::cs,d::ds=>AJ o c d && Bq o cs ds
 | _,_=>false
end
theorem RV (o:Nat):∀ (cs ds:List Ah),cs.length≠ds.length→Ay o cs ds=false
 | [],[],h=>absurd rfl h
 | [],_::_,_=>by simp [Ay]
 | _::_,[],_=>by simp [Ay]
 | c::cs,d::ds,h=>by rw [Ay,RV o cs ds (by simpa using h),Bool.and_false]
theorem RW (o:Nat):∀ (cs ds:List Al),cs.length≠ds.length→Bq o cs ds=false
 | [],[],h=>absurd rfl h
 | [],_::_,_=>by simp [Bq]
 | _::_,[],_=>by simp [Bq]
 | c::cs,d::ds,h=>by rw [Bq,RW o cs ds (by simpa using h),Bool.and_false]
theorem Wj {s o:Nat} (ho:o<18446744073709551616) (hs:s<18446744073709551616) (h:Aw LS o=true):Aw s o=true:=by
 have h1:=(JG (by decide:LS<18446744073709551616)).1 h;refine (JG hs).2 fun i hi _=>h1 i hi ?_
 have:LS=2 ^ 64 - 1:=by decide
 rw [this,Nat.testBit_two_pow_sub_one];simpa using hi
mutual
def wfA:Al→Prop
 | .mk s _ cs=>s<18446744073709551616∧AaN cs
def AaN:List Ah→Prop
 | []=>True
 | c::cs=>wfC c∧AaN cs
def wfC:Ah→Prop
 | .mk l _ _ _ ins=>l<18446744073709551616∧AaO ins
def AaO:List Al→Prop
 | []=>True
 | a::xs=>wfA a∧AaO xs
end
theorem LT {o s:Nat} (ho:o<18446744073709551616) {t:Nat} (ht:t<18446744073709551616) (hs:Aw s o=true) (h:Aw t o=false):s≠LS:=by
 intro e;subst e;rw [Wj ho ht hs] at h;cases h
mutual
theorem RX (o:Nat) (ho:o<18446744073709551616):∀ (A B:Al),wfA A→wfA B→AJ o A B=HW (Pj o A) (Pj o B)
 | .mk s sh cs,.mk s2 sh2 cs2,hA,hB=>by
   have ih:=Pk o ho cs cs2 hA.2 hB.2;cases h1:Aw s o<;>cases h2:Aw s2 o
   ·simp [AJ,Pj,h1,h2,HW,B5,CZ]
   ·have:=LT ho hA.1 h2 h1
    simp [AJ,Pj,h1,h2,HW];intro e; exact absurd e.symm this
   ·have:=LT ho hB.1 h1 h2
    simp [AJ,Pj,h1,h2,HW];intro e; exact absurd e this
   ·simp [AJ,Pj,h1,h2,HW,ih]
theorem Pk (o:Nat) (ho:o<18446744073709551616):∀ (cs ds:List Ah),AaN cs→AaN ds→Ay o cs ds=CZ (Lc o cs) (Lc o ds)
 | [],[],_,_=>by simp [Ay,Lc,CZ]
 | [],_::_,_,_=>by simp [Ay,Lc,CZ]
 | _::_,[],_,_=>by simp [Ay,Lc,CZ]
 | c::cs,d::ds,hA,hB=>by
   have h1:=AaP o ho c d hA.1 hB.1;have h2:=Pk o ho cs ds hA.2 hB.2;simp only [Ay,Lc,CZ,h1,h2]
theorem AaP (o:Nat) (ho:o<18446744073709551616):∀ (c d:Ah),wfC c→wfC d→BN o c d=I2 (Ug o c) (Ug o d)
 | .mk s k n ch ins,.mk s2 k2 n2 ch2 ins2,hA,hB=>by
   have ih:=Pl o ho ins ins2 hA.2 hB.2;cases h1:Aw s o<;>cases h2:Aw s2 o
   ·simp [BN,Ug,h1,h2,I2,Ix,B5,C0]
   ·have:=LT ho hA.1 h2 h1
    simp [BN,Ug,h1,h2,I2];intro e; exact absurd e.symm this
   ·have:=LT ho hB.1 h1 h2
    simp [BN,Ug,h1,h2,I2];intro e; exact absurd e this
   ·simp [BN,Ug,h1,h2,I2,ih]
theorem Pl (o:Nat) (ho:o<18446744073709551616):∀ (cs ds:List Al),AaO cs→AaO ds→Bq o cs ds=C0 (Ld o cs) (Ld o ds)
 | [],[],_,_=>by simp [Bq,Ld,C0]
 | [],_::_,_,_=>by simp [Bq,Ld,C0]
 | _::_,[],_,_=>by simp [Bq,Ld,C0]
 | c::cs,d::ds,hA,hB=>by
   have h1:=RX o ho c d hA.1 hB.1;have h2:=Pl o ho cs ds hA.2 hB.2;simp only [Bq,Ld,C0,h1,h2]
end
mutual
theorem arrOK.wf:∀ {A:Al},arrOK A→wfA A
 | .mk s sh cs,h=>by
   simp only [arrOK] at h;exact ⟨h.1,CT.wf h.2.2.2.2⟩
theorem CT.wf:∀ {cs:List Ah},CT cs→AaN cs
 | [],h=>by simp [AaN]
 | c::cs,h=>by
   simp only [CT] at h;exact ⟨cellOK.wf h.1,CT.wf h.2⟩
theorem cellOK.wf:∀ {c:Ah},cellOK c→wfC c
 | .mk l k n c ins,h=>by
   simp only [cellOK] at h;exact ⟨h.1,Dh.wf h.2.2.2.2.2⟩
theorem Dh.wf:∀ {xs:List Al},Dh xs→AaO xs
 | [],h=>by simp [AaO]
 | a::xs,h=>by
   simp only [Dh] at h;exact ⟨arrOK.wf h.1,Dh.wf h.2⟩
end
theorem DO {E:CK} {w:World} {sz:Nat} {es:List (List AV)} {v:Value} (h:Rd E w (.sl sz es) v):es.length≤281474976710656:=by
 obtain ⟨a,cap,vs,_,_,_,h,_⟩:=h;exact h
theorem Ac (k:IntKind) (zs:List Int):((Ab k zs).length:Int)=zs.length:=by simp [Ab]
theorem LU {α:Type} [BEq α] [LawfulBEq α] {xs ys:List α} {k:Nat} {x y:α} (hx:xs[k]? = some x) (hy:ys[k]? = some y) (h:xs.take k=ys.take k) (e:x=y):xs.take (k+1)=ys.take (k+1):=by
 rw [List.take_add_one,List.take_add_one,hx,hy,h,e]
theorem Pm {xs ys:List Int} {k:Nat} {x y:Int} (hx:xs[k]? = some x) (hy:ys[k]? = some y) (e:¬ x=y):B5 xs ys=false:=by
 cases h:B5 xs ys
 ·rfl
 ·have:=eq_of_beq h
  subst this;rw [hx] at hy;exact absurd (Option.some.inj hy) e
theorem LV {xs ys:List Int} (h:¬ xs.length=ys.length):B5 xs ys=false:=by
 cases e:B5 xs ys
 ·rfl
 ·exact absurd (congrArg List.length (eq_of_beq e)) h
theorem LW {xs ys:List Int} {k:Nat} (hk:¬ k<xs.length) (hl:xs.length=ys.length) (h:xs.take k=ys.take k):B5 xs ys=true:=by
 rw [List.take_of_length_le (by omega),List.take_of_length_le (by omega)] at h;subst h;exact beq_self_eq_true _
theorem NM (xs ys:List Int):Ae Tryz.prog 169 [.sl 1 (Ab .i64 xs),.sl 1 (Ab .i64 ys)] (.lit (.bool (B5 xs ys))):=by
 have lx:=Ac .i64 xs;have ly:=Ac .i64 ys;refine Aa Km fun C hC => ?_;refine DN 0 ((Ab .i64 xs).length≤281474976710656) (fun E w v h=>DO h) fun hx => ?_;refine DN 1 ((Ab .i64 ys).length≤281474976710656) (fun E w v h=>DO h) fun hy => ?_;by_cases hl:xs.length=ys.length
 ·refine AI ?_
  refine Dr (X:=Nat) (fun k=>⟨[(0,.sl 1 (Ab .i64 xs)),(1,.sl 1 (Ab .i64 ys)),(4,.lit (.bool false)),(12,.lit (.int .i64 xs.length)),(13,.lit (.int .i64 k))],[],0⟩) (fun k=>k≤xs.length∧xs.take k=ys.take k) (fun k=>xs.length - k) 0 (wk hC [] [0,1,4,12,13] 0) ⟨Nat.zero_le _,rfl⟩ ?_;rintro k ⟨hk,hs⟩;by_cases hlt:k<xs.length
  ·obtain ⟨x,hx'⟩:∃ x,xs[k]? = some x:=⟨_,List.getElem?_eq_getElem hlt⟩
   obtain ⟨y,hy'⟩:∃ y,ys[k]? = some y:=⟨_,List.getElem?_eq_getElem (by omega)⟩;have hxk:=Az (k:=.i64) hx';have hyk:=Az (k:=.i64) hy';by_cases e:x=y
   ·refine AI ?_
    exact ⟨k+1,by omega,⟨by omega,LU hx' hy' hs e⟩,wk hC [] [0,1,4,12,13] 0⟩
   ·refine AI ?_
    rw [Pm hx' hy' e];exact ⟨_,_,rfl,rfl,Bl.refl _⟩
  ·refine AI ?_
   rw [LW hlt hl hs];exact ⟨_,_,rfl,rfl,Bl.refl _⟩
 ·refine AI ?_
  rw [LV hl];exact ⟨_,_,rfl,rfl,Bl.refl _⟩
theorem Uh (xs ys:List Int):Ae Tryz.prog 231 [.sl 1 (Ab .u32 xs),.sl 1 (Ab .u32 ys)] (.lit (.bool (B5 xs ys))):=by
 have lx:=Ac .u32 xs;have ly:=Ac .u32 ys;refine Aa Ip fun C hC => ?_;refine DN 0 ((Ab .u32 xs).length≤281474976710656) (fun E w v h=>DO h) fun hx => ?_;refine DN 1 ((Ab .u32 ys).length≤281474976710656) (fun E w v h=>DO h) fun hy => ?_;by_cases hl:xs.length=ys.length
 ·refine AI ?_
  refine Dr (X:=Nat) (fun k=>⟨[(0,.sl 1 (Ab .u32 xs)),(1,.sl 1 (Ab .u32 ys)),(4,.lit (.bool false)),(12,.lit (.int .i64 xs.length)),(13,.lit (.int .i64 k))],[],0⟩) (fun k=>k≤xs.length∧xs.take k=ys.take k) (fun k=>xs.length - k) 0 (wk hC [] [0,1,4,12,13] 0) ⟨Nat.zero_le _,rfl⟩ ?_;rintro k ⟨hk,hs⟩;by_cases hlt:k<xs.length
  ·obtain ⟨x,hx'⟩:∃ x,xs[k]? = some x:=⟨_,List.getElem?_eq_getElem hlt⟩
   obtain ⟨y,hy'⟩:∃ y,ys[k]? = some y:=⟨_,List.getElem?_eq_getElem (by omega)⟩;have hxk:=Az (k:=.u32) hx';have hyk:=Az (k:=.u32) hy';by_cases e:x=y
   ·refine AI ?_
    exact ⟨k+1,by omega,⟨by omega,LU hx' hy' hs e⟩,wk hC [] [0,1,4,12,13] 0⟩
   ·refine AI ?_
    rw [Pm hx' hy' e];exact ⟨_,_,rfl,rfl,Bl.refl _⟩
  ·refine AI ?_
   rw [LW hlt hl hs];exact ⟨_,_,rfl,rfl,Bl.refl _⟩
 ·refine AI ?_
  rw [LV hl];exact ⟨_,_,rfl,rfl,Bl.refl _⟩
theorem Aej (xs ys:List Int):Ae Tryz.prog 109 [.sl 1 (Ab .u32 xs),.sl 1 (Ab .u32 ys)] (.lit (.bool (B5 xs ys))):=by
 have lx:=Ac .u32 xs;have ly:=Ac .u32 ys;refine Aa KO fun C hC => ?_;refine DN 0 ((Ab .u32 xs).length≤281474976710656) (fun E w v h=>DO h) fun hx => ?_;refine DN 1 ((Ab .u32 ys).length≤281474976710656) (fun E w v h=>DO h) fun hy => ?_;by_cases hl:xs.length=ys.length
 ·refine AI ?_
  refine Dr (X:=Nat) (fun k=>⟨[(0,.sl 1 (Ab .u32 xs)),(1,.sl 1 (Ab .u32 ys)),(4,.lit (.bool false)),(5,.lit (.int .i64 k))],[],0⟩) (fun k=>k≤xs.length∧xs.take k=ys.take k) (fun k=>xs.length - k) 0 (wk hC [] [0,1,4,5] 0) ⟨Nat.zero_le _,rfl⟩ ?_;rintro k ⟨hk,hs⟩;by_cases hlt:k<xs.length
  ·obtain ⟨x,hx'⟩:∃ x,xs[k]? = some x:=⟨_,List.getElem?_eq_getElem hlt⟩
   obtain ⟨y,hy'⟩:∃ y,ys[k]? = some y:=⟨_,List.getElem?_eq_getElem (by omega)⟩;have hxk:=Az (k:=.u32) hx';have hyk:=Az (k:=.u32) hy';by_cases e:x=y
   ·refine AI ?_
    exact ⟨k+1,by omega,⟨by omega,LU hx' hy' hs e⟩,wk hC [] [0,1,4,5] 0⟩
   ·refine AI ?_
    rw [Pm hx' hy' e];exact ⟨_,_,rfl,rfl,Bl.refl _⟩
  ·refine AI ?_
   rw [LW hlt hl hs];exact ⟨_,_,rfl,rfl,Bl.refl _⟩
 ·refine AI ?_
  rw [LV hl];exact ⟨_,_,rfl,rfl,Bl.refl _⟩
theorem Ahg (xs ys:List Int):Ae Tryz.prog 12 [.sl 1 (Ab .i64 xs),.sl 1 (Ab .i64 ys)] (.lit (.bool (B5 xs ys))):=by
 have lx:=Ac .i64 xs;have ly:=Ac .i64 ys;refine Aa KQ fun C hC => ?_;refine DN 0 ((Ab .i64 xs).length≤281474976710656) (fun E w v h=>DO h) fun hx => ?_;refine DN 1 ((Ab .i64 ys).length≤281474976710656) (fun E w v h=>DO h) fun hy => ?_;by_cases hl:xs.length=ys.length
 ·refine AI ?_
  refine Dr (X:=Nat) (fun k=>⟨[(0,.sl 1 (Ab .i64 xs)),(1,.sl 1 (Ab .i64 ys)),(4,.lit (.bool false)),(5,.lit (.int .i64 k))],[],0⟩) (fun k=>k≤xs.length∧xs.take k=ys.take k) (fun k=>xs.length - k) 0 (wk hC [] [0,1,4,5] 0) ⟨Nat.zero_le _,rfl⟩ ?_;rintro k ⟨hk,hs⟩;by_cases hlt:k<xs.length
  ·obtain ⟨x,hx'⟩:∃ x,xs[k]? = some x:=⟨_,List.getElem?_eq_getElem hlt⟩
   obtain ⟨y,hy'⟩:∃ y,ys[k]? = some y:=⟨_,List.getElem?_eq_getElem (by omega)⟩;have hxk:=Az (k:=.i64) hx';have hyk:=Az (k:=.i64) hy';by_cases e:x=y
   ·refine AI ?_
    exact ⟨k+1,by omega,⟨by omega,LU hx' hy' hs e⟩,wk hC [] [0,1,4,5] 0⟩
   ·refine AI ?_
    rw [Pm hx' hy' e];exact ⟨_,_,rfl,rfl,Bl.refl _⟩
  ·refine AI ?_
   rw [LW hlt hl hs];exact ⟨_,_,rfl,rfl,Bl.refl _⟩
 ·refine AI ?_
  rw [LV hl];exact ⟨_,_,rfl,rfl,Bl.refl _⟩
theorem Alr (a b:Fx):Ae Tryz.prog 204 [.agg (AY a),.agg (AY b)] (.lit (.bool (Ix a b))):=by
 refine Aa Se fun C hC => ?_;refine AI ?_;refine AH (A1 ?_);rw [Ix];cases h1:(a.neg == b.neg)
 ·refine A1 ?_
  refine Ak ⟨rfl,?_⟩;refine AI ?_;exact ⟨_,_,rfl,rfl,Bl.refl _⟩
 ·refine A1 ?_
  refine B3 (Uh a.top b.top) ?_;cases h2:B5 a.top b.top
  ·refine A1 ?_
   refine Ak ⟨rfl,?_⟩;refine AI ?_;exact ⟨_,_,rfl,rfl,Bl.refl _⟩
  ·refine A1 ?_
   refine B3 (Uh a.bot b.bot) (A1 ?_);refine Ak ⟨rfl,?_⟩;refine AI ?_;exact ⟨_,_,rfl,rfl,Bl.refl _⟩
theorem AcP (a b:Fx):Ae Tryz.prog 45 [.agg (AY a),.agg (AY b)] (.lit (.bool (Ix a b))):=by
 refine Aa KP fun C hC => ?_;refine AI ?_;refine AH (A1 ?_);rw [Ix];cases h1:(a.neg == b.neg)
 ·refine A1 ?_
  refine Ak ⟨rfl,?_⟩;refine AI ?_;exact ⟨_,_,rfl,rfl,Bl.refl _⟩
 ·refine A1 ?_
  refine B3 (Aej a.top b.top) ?_;cases h2:B5 a.top b.top
  ·refine A1 ?_
   refine Ak ⟨rfl,?_⟩;refine AI ?_;exact ⟨_,_,rfl,rfl,Bl.refl _⟩
  ·refine A1 ?_
   refine B3 (Aej a.bot b.bot) (A1 ?_);refine Ak ⟨rfl,?_⟩;refine AI ?_;exact ⟨_,_,rfl,rfl,Bl.refl _⟩
mutual
def EU:Al→Nat→Int→Int
 | .mk s sh cs,d,n=>if d=0 then -1 else Dd cs d (n - 1 - sh.length)
def Dd:List Ah→Nat→Int→Int
 | [],_,n=>n
 | c::cs,d,n=>if 0≤n then Dd cs d (Pn c d n) else n
def Pn:Ah→Nat→Int→Int
 | .mk _ _ nm _ ins,d,n=>Dv ins (d - 1) (n - 1 - nm.top.length - nm.bot.length)
def Dv:List Al→Nat→Int→Int
 | [],_,n=>n
 | a::xs,d,n=>if 0≤n then Dv xs d (EU a d n) else n
end
theorem Ui (cs:List Ah) (d:Nat) (n:Int) (h:n<0):Dd cs d n=n:=by
 cases cs with
 | nil=>simp [Dd]
 | cons c cs=>simp only [Dd]; rw [if_neg (by omega)]
theorem Uj (xs:List Al) (d:Nat) (n:Int) (h:n<0):Dv xs d n=n:=by
 cases xs with
 | nil=>simp [Dv]
 | cons c cs=>simp only [Dv]; rw [if_neg (by omega)]
mutual
theorem RY:∀ (A:Al) (d:Nat) (n:Int),arrOK A→0≤n→n≤4000 → -1000000000000000≤EU A d n∧EU A d n≤4000
 | .mk s sh cs,d,n,h,h0,h1=>by
   simp only [arrOK] at h;have hr:reachBytes=140737488351232:=rfl;simp only [EU];split
   ·omega
   ·exact Po cs d _ h.2.2.2.2 (by omega) (by omega)
theorem Po:∀ (cs:List Ah) (d:Nat) (n:Int),CT cs → -1000000000000000≤n→n≤4000 → -1000000000000000≤Dd cs d n∧Dd cs d n≤4000
 | [],d,n,h,h0,h1=>by simp only [Dd]; omega
 | c::cs,d,n,h,h0,h1=>by
   simp only [CT] at h;simp only [Dd];split
   ·rename_i hn
    obtain ⟨k1,k2⟩:=AaQ c d n h.1 hn h1;exact Po cs d _ h.2 k1 k2
   ·omega
theorem AaQ:∀ (c:Ah) (d:Nat) (n:Int),cellOK c→0≤n→n≤4000 → -1000000000000000≤Pn c d n∧Pn c d n≤4000
 | .mk l k nm ch ins,d,n,h,h0,h1=>by
   simp only [cellOK,FY] at h;have hr:reachBytes=140737488351232:=rfl;simp only [Pn];exact Pp ins _ _ h.2.2.2.2.2 (by omega) (by omega)
theorem Pp:∀ (xs:List Al) (d:Nat) (n:Int),Dh xs → -1000000000000000≤n→n≤4000 → -1000000000000000≤Dv xs d n∧Dv xs d n≤4000
 | [],d,n,h,h0,h1=>by simp only [Dv]; omega
 | a::xs,d,n,h,h0,h1=>by
   simp only [Dh] at h;simp only [Dv];split
   ·rename_i hn
    obtain ⟨k1,k2⟩:=RY a d n h.1 hn h1;exact Pp xs d _ h.2 k1 k2
   ·omega
end
def AcQ (A:Al):Bool:=decide (0≤EU A 12 4000)
theorem AK (A:Al):((A.cells.map Av).length:Int)=A.cells.length:=by simp
theorem E5 (c:Ah):((c.ins.map Dg).length:Int)=c.ins.length:=by simp
theorem AfH {cs:List Ah} {k:Nat} {c:Ah} (h:cs[k]? = some c) (d:Nat) (n:Int) (hn:0≤n):Dd (cs.drop k) d n=Dd (cs.drop (k+1)) d (Pn c d n):=by
 obtain ⟨hk,rfl⟩:=List.getElem?_eq_some_iff.1 h;rw [List.drop_eq_getElem_cons hk,Dd,if_pos hn]
theorem AfI {xs:List Al} {k:Nat} {a:Al} (h:xs[k]? = some a) (d:Nat) (n:Int) (hn:0≤n):Dv (xs.drop k) d n=Dv (xs.drop (k+1)) d (EU a d n):=by
 obtain ⟨hk,rfl⟩:=List.getElem?_eq_some_iff.1 h;rw [List.drop_eq_getElem_cons hk,Dv,if_pos hn]
theorem cellOK.parts {c:Ah} (h:cellOK c):c.l<18446744073709551616∧FY c.n∧c.ins.length≤reachBytes∧Dh c.ins:=by
 obtain ⟨l,k,n,ch,ins⟩:=c;simp only [cellOK] at h;exact ⟨h.1,h.2.2.1,h.2.2.2.2.1,h.2.2.2.2.2⟩
theorem arrOK.parts {A:Al} (h:arrOK A):A.s<18446744073709551616∧A.shape.length≤reachBytes∧A.cells.length≤reachBytes∧CT A.cells:=by
 obtain ⟨s,sh,cs⟩:=A;simp only [arrOK] at h;exact ⟨h.1,h.2.2.1,h.2.2.2.1,h.2.2.2.2⟩
theorem Ahh:∀ (d:Nat) (A:Al) (q n:Int),q=d→d≤12→arrOK A→0≤n→n≤4000→Ae Tryz.prog 103 [.agg (Ao A),.lit (.int .i64 q),.lit (.int .i64 n)] (.lit (.int .i64 (EU A d n)))
 | d,A,q,n,hq,hd,hA,hn0,hn1=>by
   have hr:reachBytes=140737488351232:=rfl;have lsh:=Ac .i64 A.shape;have lcs:=AK A;obtain ⟨a1,a2,a3,a4⟩:=hA.parts;refine Aa KR fun C hC => ?_;cases d with
   | zero =>
     have e:EU A 0 n = -1:=by cases A; simp [EU]
     rw [e];refine AI ?_;exact ⟨_,_,rfl,rfl,Bl.refl _⟩
   | succ d =>
     have e:EU A (d+1) n=Dd (A.cells.drop 0) (d+1) (n - 1 - A.shape.length):=by cases A; simp [EU,Al.cells,Al.shape]
     refine AI ?_
     refine Dr (X:=Nat × Int) (fun p=>⟨[(1,.lit (.int .i64 q)),(2,.lit (.int .i64 p.2)),(3,.optr 0 0 0),(6,.lit (.int .i64 0)),(7,.lit (.int .i64 p.1))],[(0,some ⟨false,false,26,3,[Ao A]⟩)],1⟩)
      (fun p=>p.1≤A.cells.length∧(-1000000000000000≤p.2∧p.2≤4000)∧EU A (d+1) n=Dd (A.cells.drop p.1) (d+1) p.2) (fun p=>A.cells.length - p.1) (0,n - 1 - A.shape.length) (wk hC [(0,0)] [1,2,3,6,7] 1) ⟨Nat.zero_le _,⟨by simp only; omega,by simp only; omega⟩,e⟩ ?_
     rintro ⟨k,nn⟩ ⟨hk,⟨hb1,hb2⟩,hE⟩;simp only at hk hb1 hb2 hE;by_cases hlt:k<A.cells.length
     ·by_cases h0:0≤nn
      ·obtain ⟨c,hc⟩:∃ c,A.cells[k]? = some c:=⟨_,List.getElem?_eq_getElem hlt⟩
       have hck:=A9 hc;have hcok:=Bw.1 a4 c (List.mem_of_getElem? hc);obtain ⟨c1,⟨_,_,c2,c3⟩,c4,c5⟩:=hcok.parts;have ltop:=Ac .u32 c.n.top;have lbot:=Ac .u32 c.n.bot;have lins:=E5 c;rw [AfH hc _ _ h0] at hE;have hE':EU A (d+1) n=Dd (A.cells.drop (k+1)) (d+1) (Dv (c.ins.drop 0) d (nn - 1 - c.n.top.length - c.n.bot.length)):=by rw [hE]; cases c; rfl
       refine AI ?_
       refine Dr (X:=Nat × Int) (fun p=>⟨[(1,.lit (.int .i64 q)),(2,.lit (.int .i64 p.2)),(3,.optr 0 0 0),(6,.lit (.int .i64 0)),(7,.lit (.int .i64 k)),(8,.lit (.int .i64 p.1))],[(0,some ⟨false,false,26,3,[Ao A]⟩)],1⟩)
        (fun p=>p.1≤c.ins.length∧(-1000000000000000≤p.2∧p.2≤4000)∧EU A (d+1) n=Dd (A.cells.drop (k+1)) (d+1) (Dv (c.ins.drop p.1) d p.2)) (fun p=>c.ins.length - p.1) (0,nn - 1 - c.n.top.length - c.n.bot.length) (wk hC [(0,0)] [1,2,3,6,7,8] 1) ⟨Nat.zero_le _,⟨by simp only; omega,by simp only; omega⟩,hE'⟩ ?_
       rintro ⟨j,mm⟩ ⟨hj,⟨hm1,hm2⟩,hF⟩;simp only at hj hm1 hm2 hF;by_cases hlj:j<c.ins.length
       ·by_cases h2:0≤mm
        ·obtain ⟨a,ha⟩:∃ a,c.ins[j]? = some a:=⟨_,List.getElem?_eq_getElem hlj⟩
         have hak:=CY ha;have haok:=Du.1 c5 a (List.mem_of_getElem? ha);rw [AfI ha _ _ h2] at hF;obtain ⟨r1,r2⟩:=RY a d mm haok h2 hm2;refine AI ?_;refine AH (A1 ?_);refine B3 (Ahh d a (q - 1) mm (by omega) (by omega) haok h2 hm2) (A1 ?_);refine Ak ⟨rfl,?_⟩;refine AI ?_;exact ⟨(j+1,EU a d mm),by simp only; omega,⟨by simp only; omega,⟨r1,r2⟩,hF⟩,wk hC [(0,0)] [1,2,3,6,7,8] 1⟩
        ·rw [Uj _ _ _ (by omega)] at hF
         refine AI ?_;exact ⟨(k+1,mm),by simp only; omega,⟨by simp only; omega,⟨hm1,hm2⟩,hF⟩,wk hC [(0,0)] [1,2,3,6,7] 1⟩
       ·rw [show c.ins.drop j=[] from List.drop_eq_nil_of_le (by omega),Dv] at hF
        refine AI ?_;exact ⟨(k+1,mm),by simp only; omega,⟨by simp only; omega,⟨hm1,hm2⟩,hF⟩,wk hC [(0,0)] [1,2,3,6,7] 1⟩
      ·rw [Ui _ _ _ (by omega)] at hE
       rw [hE];refine AI ?_;exact ⟨_,_,rfl,rfl,Bl.refl _⟩
     ·rw [List.drop_eq_nil_of_le (by omega),Dd] at hE
      rw [hE];refine AI ?_;exact ⟨_,_,rfl,rfl,Bl.refl _⟩
 termination_by d=>d
theorem Am0 (A:Al) (hA:arrOK A):Ae Tryz.prog 40 [.agg (Ao A)] (.lit (.bool (AcQ A))):=by
 refine Aa Mj fun C hC => ?_;refine AI ?_;refine AH (A1 ?_);refine B3 (Ahh 12 A 12 4000 rfl (by omega) hA (by omega) (by omega)) ?_;by_cases h:0≤EU A 12 4000
 ·rw [show AcQ A=true from decide_eq_true h]
  refine A1 ?_;refine Ak ⟨rfl,?_⟩;refine AI ?_;exact ⟨_,_,rfl,rfl,Bl.refl _⟩
 ·rw [show AcQ A=false from decide_eq_false h]
  refine A1 ?_;refine Ak ⟨rfl,?_⟩;refine AI ?_;exact ⟨_,_,rfl,rfl,Bl.refl _⟩
theorem Iy:ML Tryz.prog 65 := by
 refine ⟨⟨_,Tryz.func65,by rfl,by rfl⟩,fun args w => ?_⟩;refine callsD_of_wpS Tryz.func65 rfl fun c₀ cs hu => ?_;rw [Tryz.ntmps65];have hsz:5≤(args++Array.replicate (5 - args.size) undef).size:=by simp; omega
 generalize (args++Array.replicate (5 - args.size) undef)=T at hsz ⊢;have h2:2<T.size:=by omega
 have h3:3<T.size:=by omega
 apply wpS_seq;apply wpS_region;simp [wpOpsS,go_sem,recoverD,hu,Exit.thenS,h2];refine wpS_cond (t:=false) (by simp [Act.eval,h3]) ?_;simp only [Bool.false_eq_true,if_false];refine wpS_of_wp (wp_skip ?_);cases c₀;simp_all [bodyPostS,results,Tryz.results65]
theorem Iz:ML Tryz.prog 71 := by
 refine ⟨⟨_,Tryz.func71,by rfl,by rfl⟩,fun args w => ?_⟩;refine callsD_of_wpS Tryz.func71 rfl fun c₀ cs hu => ?_;rw [Tryz.ntmps71];have hsz:5≤(args++Array.replicate (5 - args.size) undef).size:=by simp; omega
 generalize (args++Array.replicate (5 - args.size) undef)=T at hsz ⊢;have h2:2<T.size:=by omega
 have h3:3<T.size:=by omega
 apply wpS_seq;apply wpS_region;simp [wpOpsS,go_sem,recoverD,hu,Exit.thenS,h2];refine wpS_cond (t:=false) (by simp [Act.eval,h3]) ?_;simp only [Bool.false_eq_true,if_false];refine wpS_of_wp (wp_skip ?_);cases c₀;simp_all [bodyPostS,results,Tryz.results71]
theorem B9:ML Tryz.prog 133 := by
 refine ⟨⟨_,Tryz.func133,by rfl,by rfl⟩,fun args w => ?_⟩;refine callsD_of_wpS Tryz.func133 rfl fun c₀ cs hu => ?_;rw [Tryz.ntmps133];have hsz:5≤(args++Array.replicate (5 - args.size) undef).size:=by simp; omega
 generalize (args++Array.replicate (5 - args.size) undef)=T at hsz ⊢;have h2:2<T.size:=by omega
 have h3:3<T.size:=by omega
 apply wpS_seq;apply wpS_region;simp [wpOpsS,go_sem,recoverD,hu,Exit.thenS,h2];refine wpS_cond (t:=false) (by simp [Act.eval,h3]) ?_;simp only [Bool.false_eq_true,if_false];refine wpS_of_wp (wp_skip ?_);cases c₀;simp_all [bodyPostS,results,Tryz.results133]
theorem FC:ML Tryz.prog 137 := by
 refine ⟨⟨_,Tryz.func137,by rfl,by rfl⟩,fun args w => ?_⟩;refine callsD_of_wpS Tryz.func137 rfl fun c₀ cs hu => ?_;rw [Tryz.ntmps137];have hsz:5≤(args++Array.replicate (5 - args.size) undef).size:=by simp; omega
 generalize (args++Array.replicate (5 - args.size) undef)=T at hsz ⊢;have h2:2<T.size:=by omega
 have h3:3<T.size:=by omega
 apply wpS_seq;apply wpS_region;simp [wpOpsS,go_sem,recoverD,hu,Exit.thenS,h2];refine wpS_cond (t:=false) (by simp [Act.eval,h3]) ?_;simp only [Bool.false_eq_true,if_false];refine wpS_of_wp (wp_skip ?_);cases c₀;simp_all [bodyPostS,results,Tryz.results137]
theorem Sn:ML Tryz.prog 126 := by
 refine ⟨⟨_,Tryz.func126,by rfl,by rfl⟩,fun args w => ?_⟩;refine callsD_of_wpS Tryz.func126 rfl fun c₀ cs hu => ?_;rw [Tryz.ntmps126];have hsz:5≤(args++Array.replicate (5 - args.size) undef).size:=by simp; omega
 generalize (args++Array.replicate (5 - args.size) undef)=T at hsz ⊢;have h2:2<T.size:=by omega
 have h3:3<T.size:=by omega
 apply wpS_seq;apply wpS_region;simp [wpOpsS,go_sem,recoverD,hu,Exit.thenS,h2];refine wpS_cond (t:=false) (by simp [Act.eval,h3]) ?_;simp only [Bool.false_eq_true,if_false];refine wpS_of_wp (wp_skip ?_);cases c₀;simp_all [bodyPostS,results,Tryz.results126]
theorem QV:ML Tryz.prog 129 := by
 refine ⟨⟨_,Tryz.func129,by rfl,by rfl⟩,fun args w => ?_⟩;refine callsD_of_wpS Tryz.func129 rfl fun c₀ cs hu => ?_;rw [Tryz.ntmps129];have hsz:4≤(args++Array.replicate (4 - args.size) undef).size:=by simp; omega
 generalize (args++Array.replicate (4 - args.size) undef)=T at hsz ⊢;have h2:1<T.size:=by omega
 have h3:2<T.size:=by omega
 apply wpS_seq;apply wpS_region;simp [wpOpsS,go_sem,recoverD,hu,Exit.thenS,h2];refine wpS_cond (t:=false) (by simp [Act.eval,h3]) ?_;simp only [Bool.false_eq_true,if_false];refine wpS_of_wp (wp_skip ?_);cases c₀;simp_all [bodyPostS,results,Tryz.results129]
theorem Sp:ML Tryz.prog 130 := by
 refine ⟨⟨_,Tryz.func130,by rfl,by rfl⟩,fun args w => ?_⟩;refine callsD_of_wpS Tryz.func130 rfl fun c₀ cs hu => ?_;rw [Tryz.ntmps130];have hsz:5≤(args++Array.replicate (5 - args.size) undef).size:=by simp; omega
 generalize (args++Array.replicate (5 - args.size) undef)=T at hsz ⊢;have h2:2<T.size:=by omega
 have h3:3<T.size:=by omega
 apply wpS_seq;apply wpS_region;simp [wpOpsS,go_sem,recoverD,hu,Exit.thenS,h2];refine wpS_cond (t:=false) (by simp [Act.eval,h3]) ?_;simp only [Bool.false_eq_true,if_false];refine wpS_of_wp (wp_skip ?_);cases c₀;simp_all [bodyPostS,results,Tryz.results130]
theorem Sq:ML Tryz.prog 132 := by
 refine ⟨⟨_,Tryz.func132,by rfl,by rfl⟩,fun args w => ?_⟩;refine callsD_of_wpS Tryz.func132 rfl fun c₀ cs hu => ?_;rw [Tryz.ntmps132];have hsz:5≤(args++Array.replicate (5 - args.size) undef).size:=by simp; omega
 generalize (args++Array.replicate (5 - args.size) undef)=T at hsz ⊢;have h2:2<T.size:=by omega
 have h3:3<T.size:=by omega
 apply wpS_seq;apply wpS_region;simp [wpOpsS,go_sem,recoverD,hu,Exit.thenS,h2];refine wpS_cond (t:=false) (by simp [Act.eval,h3]) ?_;simp only [Bool.false_eq_true,if_false];refine wpS_of_wp (wp_skip ?_);cases c₀;simp_all [bodyPostS,results,Tryz.results132]
end Go.Proofs.YtjcolpcfcdkckaaGreat
