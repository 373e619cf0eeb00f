/- An abstract layer over the walk, part 2: pieces of code, loops, contracts. -/
import Derived.Deep.LoopGhost
import Derived.Deep.MidRow
import Derived.Lib.SliceRun
import Derived.Test.YtjcolpcfcdkckaaGreatK01
namespace Go.Proofs.YtjcolpcfcdkckaaGreat
set_option linter.unusedVariables false
open Go.RowKit
theorem Cp {P:Program} {N id:Nat} {ops:Array Oper} {draw:Bool} {c:Bi} (h:AN P N (.region id ops draw)=some c):∃ d l f,c=.ops d l f:=by
 simp only [AN] at h;split at h
 ·split at h
  ·simp only [Option.some.injEq] at h; exact ⟨_,_,_,h.symm⟩
  ·split at h
   ·simp only [Option.some.injEq] at h; exact ⟨_,_,_,h.symm⟩
   ·cases h
 ·cases h
section
variable {P:Program} {C:EH} {Q:Exit→St→Prop} {st:St}
theorem AW.mono {c:Bi} {Q':Exit→St→Prop} (h:AW P C c Q st) (hq:∀ e s,Q e s→Q' e s):AW P C c Q' st :=
 fun code hc E a w hR=>wp_mono (h code hc E a w hR) fun e a' w' ⟨E',s,h1,h2⟩=>⟨E',s,hq e s h1,h2⟩
theorem OF (h:Q .normal st):AW P C .skip Q st:=by
 intro code hc E a w hR;cases code with
 | skip=>exact wp_skip ⟨E,st,h,hR⟩
 | region id ops draw=>obtain ⟨_,_,_,e⟩:=Cp hc; cases e
 | seq a b=>simp only [AN] at hc; split at hc<;>cases hc
 | cond c a b=>simp only [AN] at hc; split at hc<;>cases hc
 | block id a=>simp only [AN] at hc; split at hc<;>cases hc
 | loop a=>simp only [AN] at hc; split at hc<;>cases hc
 | _=>simp [AN] at hc
theorem X7 (h:Q .ret st):AW P C .ret Q st:=by
 intro code hc E a w hR;cases code with
 | ret=>exact wp_ret ⟨E,st,h,hR⟩
 | region id ops draw=>obtain ⟨_,_,_,e⟩:=Cp hc; cases e
 | seq a b=>simp only [AN] at hc; split at hc<;>cases hc
 | cond c a b=>simp only [AN] at hc; split at hc<;>cases hc
 | block id a=>simp only [AN] at hc; split at hc<;>cases hc
 | loop a=>simp only [AN] at hc; split at hc<;>cases hc
 | _=>simp [AN] at hc
theorem S2 {id:Nat} (h:Q (.exit id) st):AW P C (.exit id) Q st:=by
 intro code hc E a w hR;cases code with
 | exit i=>simp only [AN,Option.some.injEq,Bi.exit.injEq] at hc; subst hc; exact wp_exit ⟨E,st,h,hR⟩
 | region id ops draw=>obtain ⟨_,_,_,e⟩:=Cp hc; cases e
 | seq a b=>simp only [AN] at hc; split at hc<;>cases hc
 | cond c a b=>simp only [AN] at hc; split at hc<;>cases hc
 | block id a=>simp only [AN] at hc; split at hc<;>cases hc
 | loop a=>simp only [AN] at hc; split at hc<;>cases hc
 | _=>simp [AN] at hc
def WY (R:St→Prop) (Q:Exit→St→Prop):Exit→St→Prop
 | .normal,s=>R s
 | e,s=>Q e s
theorem Gh {a b:Bi} (h:AW P C a (WY (fun s=>AW P C b Q s) Q) st):AW P C (.seq a b) Q st:=by
 intro code hc E a' w hR;cases code with
 | seq x y =>
   simp only [AN] at hc;split at hc
   ·rename_i x' y' hx hy
    simp only [Option.some.injEq,Bi.seq.injEq] at hc;obtain ⟨rfl,rfl⟩:=hc;refine wp_seq (wp_mono (h x hx E a' w hR) ?_);rintro e a'' w' ⟨E',s,h1,h2⟩;cases e with
    | normal=>exact h1 y hy E' a'' w' h2
    | _=>exact ⟨E',s,h1,h2⟩
   ·cases hc
 | region id ops draw=>obtain ⟨_,_,_,e⟩:=Cp hc; cases e
 | cond c a b=>simp only [AN] at hc; split at hc<;>cases hc
 | block id a=>simp only [AN] at hc; split at hc<;>cases hc
 | loop a=>simp only [AN] at hc; split at hc<;>cases hc
 | _=>simp [AN] at hc
def AdN:Value→AV
 | .agg cs=>bif cs.toList.all (fun u=>u.oneCell') then .agg (cs.toList.map .lit) else .any
 | v=>.lit v
def ev (st:St):Operand→AV
 | .tmp t=>st.get t
 | .const v=>AdN v
 | .global _=>.any
 | .func f=>.fn f [] []
theorem OG {E:CK} {w:World}:∀ (l:List Value),B8 E w (l.map .lit) l
 | []=>rfl
 | v::l=>⟨v,l,rfl,rfl,OG l⟩
theorem EP.ev {C:EH} {E:CK} {st:St} {a:Act} {w:World} (R:EP C E st a w) (x:Operand):Rd E w (ev st x) (a.eval x):=by
 cases x with
 | tmp t=>exact R.tm t
 | const v =>
   simp only [Go.Proofs.YtjcolpcfcdkckaaGreat.ev,Act.eval];cases v<;>simp only [AdN,Rd]
   case agg cs =>
    cases hc:cs.toList.all (fun u=>u.oneCell') with
    | false=>trivial
    | true=>exact ⟨cs.toList,by simp,fun u hu=>List.all_eq_true.1 hc u hu,OG _⟩
 | global g=>trivial
 | func f=>exact ⟨[],[],rfl,rfl,rfl⟩
theorem AdO {c:Operand} {x y:Bi} {b:Bool} (hb:ev st c=.lit (.bool b)) (h1:b=true→AW P C x Q st) (h2:b=false→AW P C y Q st):AW P C (.cond c x y) Q st:=by
 intro code hc E a w hR;cases code with
 | cond c' x' y' =>
   simp only [AN] at hc;split at hc
   ·rename_i x'' y'' hx hy
    simp only [Option.some.injEq,Bi.cond.injEq] at hc;obtain ⟨rfl,rfl,rfl⟩:=hc
    have:=hR.ev c'
    rw [hb] at this
    have:a.eval c'=.bool b:=this
    refine wp_cond_split this (fun e=>h1 e x' hx E a w hR) (fun e=>h2 e y' hy E a w hR)
   all_goals cases hc
 | region id ops draw=>obtain ⟨_,_,_,e⟩:=Cp hc; cases e
 | seq a b=>simp only [AN] at hc; split at hc<;>cases hc
 | block id a=>simp only [AN] at hc; split at hc<;>cases hc
 | loop a=>simp only [AN] at hc; split at hc<;>cases hc
 | _=>simp [AN] at hc
theorem TD {c:Operand} {y:Bi} (hb:ev st c=.lit (.bool false)) (h2:AW P C y Q st):AW P C (.condF c y) Q st:=by
 intro code hc E a w hR;cases code with
 | cond c' x' y' =>
   simp only [AN] at hc;split at hc
   ·cases hc
   ·cases hc
   ·rename_i y'' hx hy
    simp only [Option.some.injEq,Bi.condF.injEq] at hc;obtain ⟨rfl,rfl⟩:=hc
    have:=hR.ev c'
    rw [hb] at this
    have:a.eval c'=.bool false:=this
    refine wp_cond_split this (fun e=>by cases e) (fun e=>h2 y' hy E a w hR)
   ·cases hc
 | region id ops draw=>obtain ⟨_,_,_,e⟩:=Cp hc; cases e
 | seq a b=>simp only [AN] at hc; split at hc<;>cases hc
 | block id a=>simp only [AN] at hc; split at hc<;>cases hc
 | loop a=>simp only [AN] at hc; split at hc<;>cases hc
 | _=>simp [AN] at hc
theorem TE {c:Operand} {x:Bi} (hb:ev st c=.lit (.bool true)) (h1:AW P C x Q st):AW P C (.condT c x) Q st:=by
 intro code hc E a w hR;cases code with
 | cond c' x' y' =>
   simp only [AN] at hc;split at hc
   ·cases hc
   ·rename_i x'' hx hy
    simp only [Option.some.injEq,Bi.condT.injEq] at hc;obtain ⟨rfl,rfl⟩:=hc
    have:=hR.ev c'
    rw [hb] at this
    have:a.eval c'=.bool true:=this
    refine wp_cond_split this (fun e=>h1 x' hx E a w hR) (fun e=>by cases e)
   ·cases hc
   ·cases hc
 | region id ops draw=>obtain ⟨_,_,_,e⟩:=Cp hc; cases e
 | seq a b=>simp only [AN] at hc; split at hc<;>cases hc
 | block id a=>simp only [AN] at hc; split at hc<;>cases hc
 | loop a=>simp only [AN] at hc; split at hc<;>cases hc
 | _=>simp [AN] at hc
theorem Ge {c:Operand} {x y:Bi} (hb:ev st c=.lit (.bool true)) (h1:AW P C x Q st):AW P C (.cond c x y) Q st:=AdO hb (fun _=>h1) (fun h=>by cases h)
theorem IP {c:Operand} {x y:Bi} (hb:ev st c=.lit (.bool false)) (h1:AW P C y Q st):AW P C (.cond c x y) Q st:=AdO hb (fun h=>by cases h) (fun _=>h1)
def AgL (id:Nat) (Q:Exit→St→Prop):Exit→St→Prop
 | .exit i,s=>bif Nat.beq i id then Q .normal s else Q (.exit i) s
 | e,s=>Q e s
theorem OH {id:Nat} {c:Bi} (h:AW P C c (AgL id Q) st):AW P C (.block id c) Q st:=by
 intro code hc E a' w hR;cases code with
 | block i x =>
   simp only [AN] at hc;split at hc
   ·rename_i x' hx
    simp only [Option.some.injEq,Bi.block.injEq] at hc;obtain ⟨rfl,rfl⟩:=hc;refine wp_block (wp_mono (h x hx E a' w hR) ?_);rintro e a'' w' ⟨E',s,h1,h2⟩;cases e with
    | exit k =>
      simp only [AgL] at h1;simp only [Exit.inBlock];by_cases hk:k=i
      ·subst hk
       rw [Nat.beq_refl,cond_true] at h1;rw [if_pos rfl]; exact ⟨E',s,h1,h2⟩
      ·rw [Ej hk,cond_false] at h1
       rw [if_neg hk]; exact ⟨E',s,h1,h2⟩
    | _=>exact ⟨E',s,h1,h2⟩
   ·cases hc
 | region id ops draw=>obtain ⟨_,_,_,e⟩:=Cp hc; cases e
 | seq a b=>simp only [AN] at hc; split at hc<;>cases hc
 | cond c a b=>simp only [AN] at hc; split at hc<;>cases hc
 | loop a=>simp only [AN] at hc; split at hc<;>cases hc
 | _=>simp [AN] at hc
def Ki (C:EH) (s s':St):Prop:=∀ E a w,EP C E s a w→∃ E',EP C E' s' a w
theorem DM {c:Bi} {s':St} (hw:Ki C st s') (h:AW P C c Q s'):AW P C c Q st :=
 fun code hc E a w hR=>let ⟨E',hR'⟩:=hw E a w hR; h code hc E' a w hR'
theorem AgM {c:Bi} (F:Prop) (hF:∀ E a w,EP C E st a w→F) (h:F→AW P C c Q st):AW P C c Q st :=
 fun code hc E a w hR=>h (hF E a w hR) code hc E a w hR
theorem Dr {X:Type} {c:Bi} (S:X→St) (I:X→Prop) (μ:X→Nat) (x0:X) (h0:Ki C st (S x0)) (hI:I x0)
 (round:∀ x,I x→AW P C c (WY (fun s'=>∃ x',μ x'<μ x∧I x'∧Ki C s' (S x')) Q) (S x)):AW P C (.loop c) Q st:=by
 intro code hc E a w hR;cases code with
 | loop b =>
   simp only [AN] at hc;split at hc
   ·rename_i b' hb
    simp only [Option.some.injEq,Bi.loop.injEq] at hc;subst hc;refine wp_loop_ghost (fun n a w=>∃ x,μ x=n∧I x∧∃ E,EP C E (S x) a w) (μ x0) ⟨x0,rfl,hI,h0 E a w hR⟩ ?_;rintro n a w ⟨x,rfl,hx,E,hR⟩;refine wp_mono (round x hx b hb E a w hR) ?_;rintro e a' w' ⟨E',s,h1,h2⟩;cases e with
    | normal =>
      obtain ⟨x',hlt,hx',hw⟩:=h1;exact ⟨μ x',hlt,x',rfl,hx',hw E' a' w' h2⟩
    | _=>exact ⟨E',s,h1,h2⟩
   ·cases hc
 | region id ops draw=>obtain ⟨_,_,_,e⟩:=Cp hc; cases e
 | seq a b=>simp only [AN] at hc; split at hc<;>cases hc
 | cond c a b=>simp only [AN] at hc; split at hc<;>cases hc
 | block id a=>simp only [AN] at hc; split at hc<;>cases hc
 | _=>simp [AN] at hc
end
mutual
def Cn (σ:List (Nat × Nat)):AV→AV
 | .own id=>match look σ id with|some k=>.own k|none=>.any
 | .optr id i off=>match look σ id with|some k=>.optr k i off|none=>.any
 | .agg cs=>.agg (HI σ cs)
 | .tup cs=>.tup (HI σ cs)
 | .fn f fi ca=>.fn f (HI σ fi) (HI σ ca)
 | .any=>.any
 | .lit v=>.lit v
 | .sl sz es=>.sl sz es
 | .ep sz es i off=>.ep sz es i off
 | .osl id off n=>match look σ id with|some k=>.osl k off n|none=>.any
 | .sem s=>.sem s
def HI (σ:List (Nat × Nat)):List AV→List AV
 | []=>[]
 | a::l=>Cn σ a::HI σ l
end
def Cg (σ:List (Nat × Nat)) (o:OB):OB:=bif o.row then o else bif o.sz == 0 then o else { o with es:=o.es.map (HI σ) }
def EQ (σ:List (Nat × Nat)) (L:List Nat) (n:Nat) (st:St):St :=
 ⟨L.map fun k=>(k,Cn σ (st.get k)),σ.map fun p=>(p.2,(hl st.h p.1).map (Cg σ)),n⟩
def V6 (n:Nat):List (Nat × Nat)→Bool
 | []=>true
 | p::r=>Nat.blt p.2 n && (r.all fun q => !Nat.beq q.1 p.1 && !Nat.beq q.2 p.2) && V6 n r
theorem Nf {n:Nat}:∀ {σ:List (Nat × Nat)},V6 n σ=true→∀ p ∈ σ,p.2<n
 | [],_,p,h=>by cases h
 | q::r,h,p,hp=>by
   simp only [V6,Bool.and_eq_true] at h;rcases List.mem_cons.1 hp with rfl|hp
   ·simpa [Nat.blt_eq] using h.1.1
   ·exact Nf h.2 p hp
theorem KJ {n:Nat}:∀ {σ:List (Nat × Nat)},V6 n σ=true→∀ p ∈ σ,look σ p.1=some p.2
 | [],_,p,h=>by cases h
 | q::r,h,p,hp=>by
   simp only [V6,Bool.and_eq_true,List.all_eq_true] at h;obtain ⟨q1,q2⟩:=q;rcases List.mem_cons.1 hp with rfl|hp
   ·simp [look]
   ·have:=h.1.2 p hp
    simp only [Bool.not_eq_true'] at this
    have hb:Nat.beq q1 p.1=false:=by
     have:=this.1
     cases hb:Nat.beq q1 p.1
     ·rfl
     ·rw [Nat.eq_of_beq_eq_true hb] at this; simp at this
    simp only [look,hb,cond_false];exact KJ h.2 p hp
theorem GH {n:Nat}:∀ {σ:List (Nat × Nat)},V6 n σ=true→∀ p q,p ∈ σ→q ∈ σ→p.2=q.2→p=q
 | [],_,p,q,h,_,_=>by cases h
 | r0::r,h,p,q,hp,hq,e=>by
   simp only [V6,Bool.and_eq_true,List.all_eq_true] at h;rcases List.mem_cons.1 hp with h1|h1<;>rcases List.mem_cons.1 hq with h2|h2
   ·rw [h1,h2]
   ·have:=h.1.2 q h2
    simp only [Bool.not_eq_true'] at this;rw [← e,h1] at this; simp at this
   ·have:=h.1.2 p h1
    simp only [Bool.not_eq_true'] at this;rw [e,h2] at this; simp at this
   ·exact GH h.2 p q h1 h2 e
theorem FW {α:Type}:∀ {u:List (Nat × α)} {id:Nat} {x:α},look u id=some x→(id,x) ∈ u
 | [],_,_,h=>by cases h
 | (k,v)::u,id,x,h=>by
   simp only [look] at h;cases hb:Nat.beq k id with
   | true =>
     rw [hb,cond_true] at h;rw [Nat.eq_of_beq_eq_true hb];simp only [Option.some.injEq] at h;rw [h]; exact List.mem_cons_self
   | false =>
     rw [hb,cond_false] at h;exact List.mem_cons_of_mem _ (FW h)
def Afx (σ:List (Nat × Nat)) (k:Nat):Nat:=match look (σ.map fun p=>(p.2,p.1)) k with|some o=>o|none=>0
theorem E3 {n:Nat} {σ:List (Nat × Nat)} (h:V6 n σ=true) {p:Nat × Nat} (hp:p ∈ σ):Afx σ p.2=p.1:=by
 have hm:p.2 ∈ (σ.map fun p=>(p.2,p.1)).map (·.1):=by
  rw [List.map_map]; exact List.mem_map.2 ⟨p,hp,rfl⟩
 obtain ⟨x,hx⟩:=Qt hm
 have:=FW hx
 obtain ⟨q,hq,e⟩:=List.mem_map.1 this;simp only [Prod.mk.injEq] at e;have hqp:=GH h q p hq hp e.1;subst hqp;simp only [Afx,hx]; exact e.2.symm
def D8 (σ:List (Nat × Nat)) (E:CK):CK:=⟨E.im,fun k=>∃ p ∈ σ,p.2=k∧E.live p.1,fun k=>E.val (Afx σ k),fun k=>E.sz (Afx σ k)⟩
mutual
theorem Rd.ren {n:Nat} {σ:List (Nat × Nat)} (h:V6 n σ=true) {E:CK} {w:World}:∀ (av:AV) (v:Value),Rd E w av v→Rd (D8 σ E) w (Cn σ av) v
 | .any,_,_=>trivial
 | .lit _,_,h=>h
 | .sl sz es,v,h=>h
 | .ep sz es i off,v,h=>h
 | .agg cs,v,hr=>by
   simp only [Cn,Rd] at hr ⊢;obtain ⟨vs,h1,h0,h2⟩:=hr;exact ⟨vs,h1,h0,B8.ren h cs vs h2⟩
 | .tup cs,v,hr=>by
   simp only [Cn,Rd] at hr ⊢;obtain ⟨vs,h1,h2⟩:=hr;exact ⟨vs,h1,B8.ren h cs vs h2⟩
 | .fn f fi ca,v,hr=>by
   simp only [Cn,Rd] at hr ⊢;obtain ⟨vs,us,h1,h2,h3⟩:=hr;exact ⟨vs,us,h1,B8.ren h fi vs h2,B8.ren h ca us h3⟩
 | .own id,v,hr=>by
   simp only [Cn];cases hk:look σ id with
   | none=>trivial
   | some k =>
     have hm:=FW hk;have hb:=E3 h hm;simp only [Rd] at hr ⊢;exact ⟨⟨(id,k),hm,rfl,hr.1⟩,hr.2.1,by rw [hr.2.2]; simp only [D8]; rw [hb]⟩
 | .optr id i off,v,hr=>by
   simp only [Cn];cases hk:look σ id with
   | none=>trivial
   | some k =>
     have hm:=FW hk;have hb:=E3 h hm;simp only [Rd] at hr ⊢;obtain ⟨h1,b,h2,h3⟩:=hr;exact ⟨⟨(id,k),hm,rfl,h1⟩,b,by simp only [D8]; rw [hb]; exact h2,by simp only [D8]; rw [hb]; exact h3⟩
 | .osl id off n,v,hr=>by
   simp only [Cn];cases hk:look σ id with
   | none=>trivial
   | some k =>
     have hm:=FW hk;have hb:=E3 h hm;simp only [Rd] at hr ⊢;obtain ⟨h1,b,len,cap,h2,h3,h4⟩:=hr;exact ⟨⟨(id,k),hm,rfl,h1⟩,b,len,cap,by simp only [D8]; rw [hb]; exact h2,h3,by simp only [D8]; rw [hb]; exact h4⟩
 | .sem s,v,hr=>hr
theorem B8.ren {n:Nat} {σ:List (Nat × Nat)} (h:V6 n σ=true) {E:CK} {w:World}:∀ (l:List AV) (vs:List Value),B8 E w l vs→B8 (D8 σ E) w (HI σ l) vs
 | [],_,hr=>hr
 | a::l,vs,hr=>by
   simp only [HI,B8] at hr ⊢;obtain ⟨v,rest,h1,h2,h3⟩:=hr;exact ⟨v,rest,h1,Rd.ren h a v h2,B8.ren h l rest h3⟩
end
theorem TF (f:Nat→AV):∀ (L:List Nat) (n:Nat),Fu (L.map fun k=>(k,f k)) n=(if n ∈ L then f n else .any)
 | [],n=>by simp [Fu,look]
 | k::L,n=>by
   have ih:=TF f L n;simp only [Fu] at ih;simp only [Fu,List.map_cons,look];by_cases hk:k=n
   ·subst hk; simp
   ·rw [Ej hk,cond_false,ih]
    have:n ∈ k::L↔n ∈ L:=by simp [Ne.symm hk]
    simp only [this]
theorem IQ {σ:List (Nat × Nat)} {n:Nat} (h:V6 n σ=true) {st:St} {k:Nat} {o:OB} (ho:hl (σ.map fun p=>(p.2,(hl st.h p.1).map (Cg σ))) k=some o) :
 ∃ p o0,p ∈ σ∧p.2=k∧hl st.h p.1=some o0∧o=Cg σ o0:=by
 simp only [hl] at ho;split at ho
 ·rename_i o' hl'
  simp only [Option.some.injEq] at ho;subst ho;obtain ⟨p,hp,e⟩:=List.mem_map.1 (FW hl');simp only [Prod.mk.injEq] at e;obtain ⟨e1,e2⟩:=e;simp only [Option.map_eq_some_iff] at e2;obtain ⟨o0,h1,h2⟩:=e2;exact ⟨p,o0,hp,e1,h1,h2.symm⟩
 ·cases ho
theorem Qw {C:EH} {s:St} (σ:List (Nat × Nat)) (L:List Nat) (n:Nat) (h:V6 n σ=true) (hm:∀ i,i<C.m→(i,i) ∈ σ) {s':St} (e:EQ σ L n s=s') {E:CK} {a:Act} {w:World} (R:EP C E s a w):EP C (D8 σ E) s' a w:=by
 subst e;refine ⟨R.defers,R.size,fun k => ?_,⟨?_,?_,?_,R.heap.lt⟩,?_,?_,?_,R.imx,R.imn,R.frm⟩
 ·have:=TF (fun k=>Cn σ (s.get k)) L k
  show Rd _ w (Fu (L.map fun k=>(k,Cn σ (s.get k))) k) _;rw [this];split
  ·exact Rd.ren h _ _ (R.tm k)
  ·trivial
 ·rintro id o ⟨p,hp,rfl,hlive⟩ ho
  obtain ⟨q,o0,hq,e1,h1,rfl⟩:=IQ h ho;obtain rfl:=GH h q p hq hp e1;obtain ⟨k1,k2⟩:=R.heap.ob _ _ hlive h1;have hb:=E3 h hp;cases hr:o0.row
  ·rw [hr] at k2
   rcases k2 with ⟨hz,g,vs,cs,j1,j2,j3,j4,j5,j6⟩|⟨hz,g,es,clock,j1,j2,j3,j4⟩
   ·have ee:Cg σ o0={ o0 with es:=o0.es.map (HI σ) }:=by
     have:(o0.sz == 0)=false:=by simp; omega
     simp [Cg,hr,this]
    rw [ee];refine ⟨by simp only [D8]; rw [hb]; exact k1,?_⟩;rw [hr];exact .inl ⟨hz,g,vs,HI σ cs,by simp only [D8]; rw [hb]; exact j1,j2,by simp [j3],j4,B8.ren h _ _ j5,j6⟩
   ·have ee:Cg σ o0=o0:=by simp [Cg,hr,hz]
    rw [ee];refine ⟨by simp only [D8]; rw [hb]; exact k1,?_⟩;rw [hr];exact .inr ⟨hz,g,es,clock,by simp only [D8]; rw [hb]; exact j1,j2,RdM.imp (E:=E) (E':=D8 σ E) (w:=w) (w':=w) (fun cs vs h=>h) _ _ j3,j4⟩
  ·have ee:Cg σ o0=o0:=by simp [Cg,hr]
   rw [ee];refine ⟨by simp only [D8]; rw [hb]; exact k1,?_⟩;rw [hr] at k2 ⊢;obtain ⟨vs,a',cap,j1,j2,j3,j4,j5⟩:=k2;exact ⟨vs,a',cap,by simp only [D8]; rw [hb]; exact j1,by simp only [D8]; rw [hb]; exact j2,j3,j4,j5⟩
 ·rintro id id' o o' b ⟨p,hp,rfl,hl1⟩ ⟨p',hp',rfl,hl2⟩ ho ho' hb hb'
  obtain ⟨q,o0,hq,e1,h1,rfl⟩:=IQ h ho;obtain ⟨q',o0',hq',e1',h1',rfl⟩:=IQ h ho';obtain rfl:=GH h q p hq hp e1;obtain rfl:=GH h q' p' hq' hp' e1';simp only [D8,E3 h hp,E3 h hp'] at hb hb'
  have:=R.heap.apart _ _ _ _ b hl1 hl2 h1 h1' hb hb'
  have k1:=KJ h _ hp;have k2:=KJ h _ hp';rw [this] at k1;rw [k1] at k2;exact Option.some.inj k2
 ·rintro id o b ⟨p,hp,rfl,hl1⟩ ho hb
  obtain ⟨q,o0,hq,e1,h1,rfl⟩:=IQ h ho;obtain rfl:=GH h q p hq hp e1;simp only [D8,E3 h hp] at hb
  have:=R.heap.im _ _ b hl1 h1 hb
  have er:(Cg σ o0).ro=o0.ro:=by unfold Cg; cases o0.row<;>cases (o0.sz == 0)<;>rfl
  rw [er]; exact this
 ·rintro id ⟨p,hp,rfl,hl1⟩
  exact Nf h p hp
 ·rintro id o b ⟨p,hp,rfl,hl1⟩ ho hb
  obtain ⟨q,o0,hq,e1,h1,rfl⟩:=IQ h ho;obtain rfl:=GH h q p hq hp e1;simp only [D8,E3 h hp] at hb;exact R.own _ _ b hl1 h1 hb
 ·intro id hid
  have hmem:=hm id hid;obtain ⟨k1,k2,k3⟩:=R.ext id hid;have hb:=E3 h hmem;simp only at hb;exact ⟨⟨(id,id),hmem,rfl,k1⟩,by simp only [D8]; rw [hb]; exact k2,by simp only [D8]; rw [hb]; exact k3⟩
theorem TG {C:EH} {s:St} (σ:List (Nat × Nat)) (L:List Nat) (n:Nat) (h:V6 n σ=true) (hm:∀ i,i<C.m→(i,i) ∈ σ) {s':St} (e:EQ σ L n s=s'):Ki C s s':=fun E a w R=>⟨D8 σ E,Qw σ L n h hm e R⟩
theorem CC (b off i:Nat):(⟨b,off,none⟩:Addr).add i=⟨b,off+i,none⟩:=by unfold Addr.add; split<;>simp_all
def HR (g:Bool) (cs:List AV):Option AV:=bif g then some (.agg cs) else match cs with|[x]=>some x|_=>none
theorem D9 {P:Program} {t:TypeId} {g:Bool} {n:Nat} (h:EG P t=some (g,n)) :
 ∃ d i,P.underlying t=some d∧P.info? t=some i∧i.size=n∧g=d.isRow∧(g=false→n=1):=by
 simp only [EG] at h;split at h
 ·rename_i d i hd hi
  split at h
  ·rename_i hc
   simp only [Option.some.injEq,Prod.mk.injEq] at h;obtain ⟨h1,h2⟩:=h;refine ⟨d,i,hd,hi,h2,?_,?_⟩
   ·rw [← h1]; cases d<;>rfl
   ·intro hg
    rw [h1,hg] at hc;simp only [Bool.false_or] at hc;rw [← h2]; exact Nat.eq_of_beq_eq_true hc
  ·cases h
 ·cases h
theorem KK {P:Program} {w:World} {t:TypeId} {g:Bool} {n b o:Nat} {vs:List Value} (hs:EG P t=some (g,n)) (hl:vs.length=n) (hc:∀ i v,vs[i]? = some v→w.cell? ⟨b,o+i,none⟩=some v) :
 (loadVar t ⟨b,o,none⟩).run P w=.ok (bif g then .agg vs.toArray else vs.getD 0 undef) w:=by
 obtain ⟨d,i,h1,h2,h3,h4,h5⟩:=D9 hs;cases g with
 | true=>exact run_loadVar_mid w b o t vs d hc h1 h4.symm (by rw [h2]; simp [h3,hl])
 | false =>
   have hn:=h5 rfl
   obtain ⟨v,rfl⟩:∃ v,vs=[v]:=by
    match vs,(by omega:vs.length=1) with
    | [v],_=>exact ⟨v,rfl⟩
   have hagg:(isAgg t).run P w=.ok false w:=by
    unfold isAgg;rw [Sem.run_bind,run_underlying h1 w];cases d<;>simp_all
   have hcell:=hc 0 v (by simp);rw [Nat.add_zero] at hcell;simp [loadVar,Sem.run_bind,hagg,run_load,hcell]
theorem Ng {E:CK} {w:World} {g:Bool} {n:Nat} {cs:List AV} {vs:List Value} {av:AV} (h:HR g cs=some av) (h0:Ft vs) (hr:B8 E w cs vs):Rd E w av (bif g then .agg vs.toArray else vs.getD 0 undef):=by
 cases g with
 | true=>simp only [HR,cond_true,Option.some.injEq] at h; subst h; exact ⟨vs,rfl,h0,hr⟩
 | false =>
   simp only [HR,cond_false] at h;split at h
   ·simp only [Option.some.injEq] at h
    subst h;simp only [B8] at hr;obtain ⟨v,rest,rfl,h1,rfl⟩:=hr;exact h1
   ·cases h
theorem B8.length {E:CK} {w:World}:∀ {l:List AV} {vs:List Value},B8 E w l vs→vs.length=l.length
 | [],vs,h=>by simp only [B8] at h; simp [h]
 | a::l,vs,h=>by
   simp only [B8] at h;obtain ⟨v,rest,rfl,_,h3⟩:=h;simp [h3.length]
theorem B8.get {E:CK} {w:World}:∀ {l:List AV} {vs:List Value} {i:Nat} {a:AV},B8 E w l vs→l[i]? = some a→∃ v,vs[i]? = some v∧Rd E w a v
 | [],vs,i,a,h,hi=>by simp at hi
 | b::l,vs,0,a,h,hi=>by
   simp only [B8] at h;obtain ⟨v,rest,rfl,h2,h3⟩:=h;simp only [List.getElem?_cons_zero,Option.some.injEq] at hi;subst hi; exact ⟨v,by simp,h2⟩
 | b::l,vs,i+1,a,h,hi=>by
   simp only [B8] at h;obtain ⟨v,rest,rfl,h2,h3⟩:=h;obtain ⟨u,hu,hr⟩:=B8.get h3 (by simpa using hi);exact ⟨u,by simpa using hu,hr⟩
theorem B8.drop {E:CK} {w:World}:∀ (n:Nat) {l:List AV} {vs:List Value},B8 E w l vs→B8 E w (l.drop n) (vs.drop n)
 | 0,l,vs,h=>by simpa using h
 | n+1,[],vs,h=>by simp only [B8] at h; subst h; simp [B8]
 | n+1,a::l,vs,h=>by
   simp only [B8] at h;obtain ⟨v,rest,rfl,_,h3⟩:=h;simpa using B8.drop n h3
theorem B8.take {E:CK} {w:World}:∀ (n:Nat) {l:List AV} {vs:List Value},B8 E w l vs→B8 E w (l.take n) (vs.take n)
 | 0,l,vs,h=>by simp [B8]
 | n+1,[],vs,h=>by simp only [B8] at h; subst h; simp [B8]
 | n+1,a::l,vs,h=>by
   simp only [B8] at h;obtain ⟨v,rest,rfl,h2,h3⟩:=h;simp only [List.take_succ_cons,B8];exact ⟨v,rest.take n,rfl,h2,B8.take n h3⟩
theorem B8.append {E:CK} {w:World}:∀ {l:List AV} {vs:List Value} {l':List AV} {vs':List Value},B8 E w l vs→B8 E w l' vs'→B8 E w (l++l') (vs++vs')
 | [],vs,l',vs',h,h'=>by simp only [B8] at h; subst h; simpa using h'
 | a::l,vs,l',vs',h,h'=>by
   simp only [B8] at h;obtain ⟨v,rest,rfl,h2,h3⟩:=h;simp only [List.cons_append,B8];exact ⟨v,rest++vs',rfl,h2,h3.append h'⟩
mutual
def G7 (f:AV→Option AV):AV→Option AV
 | .own id=>f (.own id)
 | .optr id i off=>f (.optr id i off)
 | .agg cs=>match Ij f cs with|some l=>some (.agg l)|none=>none
 | .tup cs=>match Ij f cs with|some l=>some (.tup l)|none=>none
 | .fn g fi ca=>match Ij f fi,Ij f ca with|some l,some l'=>some (.fn g l l')|_,_=>none
 | .any=>some .any
 | .lit v=>some (.lit v)
 | .sl sz es=>some (.sl sz es)
 | .ep sz es i off=>some (.ep sz es i off)
 | .osl id off n=>f (.osl id off n)
 | .sem s=>some (.sem s)
def Ij (f:AV→Option AV):List AV→Option (List AV)
 | []=>some []
 | a::l=>match G7 f a,Ij f l with|some b,some r=>some (b::r)|_,_=>none
end
def C4 (ro:Bool) (h:Hp):Nat→AV→Option AV
 | 0,_=>none
 | n+1,av=>G7 (fun x=>match x with
   | .own id=>match hl h id with
     | some o=>bif o.row && (!ro || o.ro) then some (.sl o.sz o.es) else none
     | none=>none
   | .optr id i off=>match hl h id with
     | some o=>bif !ro || o.ro then (bif o.row then some (.ep o.sz o.es i off) else match o.es with
       | [cs]=>match Ij (C4 ro h n) cs with|some l=>some (.ep o.sz [l] i off)|none=>none
       | _=>none) else none
     | none=>none
   | .osl id off k=>match hl h id with
     | some o=>bif o.row && (!ro || o.ro) then some (.sl o.sz ((o.es.drop off).take k)) else none
     | none=>none
   | _=>none) av
mutual
theorem Aah {E:CK} {im:Nat→Prop} {w:World} {f:AV→Option AV} (him:∀ b,E.im b→im b) (hf:∀ x y v,Rd E w x v→f x=some y→Dm im w y v):∀ (av:AV) (v:Value) (av':AV),Rd E w av v→G7 f av=some av'→Dm im w av' v
 | .own id,v,av',h,e=>hf _ _ _ h (by simpa [G7] using e)
 | .optr id i off,v,av',h,e=>hf _ _ _ h (by simpa [G7] using e)
 | .osl id off n,v,av',h,e=>hf _ _ _ h (by simpa [G7] using e)
 | .sem s,v,av',h,e=>by simp only [G7,Option.some.injEq] at e; subst e; exact Dm.mono him (fun b hb=>rfl) (.sem s) _ h
 | .any,v,av',h,e=>by simp only [G7,Option.some.injEq] at e; subst e; trivial
 | .lit u,v,av',h,e=>by simp only [G7,Option.some.injEq] at e; subst e; exact h
 | .sl sz es,v,av',h,e=>by simp only [G7,Option.some.injEq] at e; subst e; exact Dm.mono him (fun b hb=>rfl) _ _ h
 | .ep sz es i off,v,av',h,e=>by simp only [G7,Option.some.injEq] at e; subst e; exact Dm.mono him (fun b hb=>rfl) _ _ h
 | .agg cs,v,av',h,e=>by
   simp only [G7] at e;cases hl:Ij f cs with
   | none=>simp [hl] at e
   | some l =>
     simp only [hl,Option.some.injEq] at e; subst e;simp only [Rd] at h;obtain ⟨vs,h1,h0,h2⟩:=h;exact ⟨vs,h1,h0,Jr him hf cs vs l h2 hl⟩
 | .tup cs,v,av',h,e=>by
   simp only [G7] at e;cases hl:Ij f cs with
   | none=>simp [hl] at e
   | some l =>
     simp only [hl,Option.some.injEq] at e; subst e;simp only [Rd] at h;obtain ⟨vs,h1,h2⟩:=h;exact ⟨vs,h1,Jr him hf cs vs l h2 hl⟩
 | .fn g fi ca,v,av',h,e=>by
   simp only [G7] at e;cases hl:Ij f fi with
   | none=>simp [hl] at e
   | some l =>
     cases hl':Ij f ca with
     | none=>simp [hl,hl'] at e
     | some l' =>
       simp only [hl,hl',Option.some.injEq] at e; subst e;simp only [Rd] at h;obtain ⟨vs,us,h1,h2,h3⟩:=h;exact ⟨vs,us,h1,Jr him hf fi vs l h2 hl,Jr him hf ca us l' h3 hl'⟩
theorem Jr {E:CK} {im:Nat→Prop} {w:World} {f:AV→Option AV} (him:∀ b,E.im b→im b) (hf:∀ x y v,Rd E w x v→f x=some y→Dm im w y v):∀ (l:List AV) (vs:List Value) (l':List AV),B8 E w l vs→Ij f l=some l'→Be im w l' vs
 | [],vs,l',h,e=>by simp only [Ij,Option.some.injEq] at e; subst e; exact h
 | a::l,vs,l',h,e=>by
   simp only [Ij] at e;cases ha:G7 f a with
   | none=>simp [ha] at e
   | some b =>
     cases hr:Ij f l with
     | none=>simp [ha,hr] at e
     | some r =>
       simp only [ha,hr,Option.some.injEq] at e; subst e;simp only [B8] at h;obtain ⟨v,rest,h1,h2,h3⟩:=h;exact ⟨v,rest,h1,Aah him hf a v b h2 ha,Jr him hf l rest r h3 hr⟩
end
def imV (ro:Bool) (E:CK) (h:Hp):Nat→Prop:=fun b=>E.im b∨∃ id o,E.live id∧hl h id=some o∧Bz (E.val id)=some b∧(ro=true→o.ro=true)
theorem AZ.dropV {im:Nat→Prop} {w:World} {sz:Nat}:∀ (n:Nat) {es:List (List AV)} {vs:List Value},AZ im w sz es vs→AZ im w sz (es.drop n) (vs.drop (n * sz))
 | 0,es,vs,h=>by simpa using h
 | n+1,[],vs,h=>by simp only [AZ] at h; subst h; simp [AZ]
 | n+1,e::es,vs,h=>by
   simp only [AZ] at h;obtain ⟨x,rest,rfl,h1,h2,h3⟩:=h
   have:(x++rest).drop ((n+1) * sz)=rest.drop (n * sz):=by
    rw [Nat.add_mul,Nat.one_mul,Nat.add_comm,← List.drop_drop];congr 1;rw [← h1]; simp
   rw [this]; exact AZ.dropV n h3
theorem AZ.takeV {im:Nat→Prop} {w:World} {sz:Nat}:∀ (n:Nat) {es:List (List AV)} {vs:List Value},AZ im w sz es vs→AZ im w sz (es.take n) (vs.take (n * sz))
 | 0,es,vs,h=>by simp [AZ]
 | n+1,[],vs,h=>by simp only [AZ] at h; subst h; simp [AZ]
 | n+1,e::es,vs,h=>by
   simp only [AZ] at h;obtain ⟨x,rest,rfl,h1,h2,h3⟩:=h;simp only [List.take_succ_cons,AZ];refine ⟨x,rest.take (n * sz),?_,h1,h2,AZ.takeV n h3⟩;rw [Nat.add_mul,Nat.one_mul,Nat.add_comm,← h1,List.take_length_add_append]
theorem HS {ro:Bool} {E:CK} {w:World} {h:Hp} (H:Cr E w h):∀ (n:Nat) (av:AV) (v:Value) (av':AV),Rd E w av v→C4 ro h n av=some av'→Dm (imV ro E h) w av' v
 | 0,av,v,av',hr,e=>by simp [C4] at e
 | n+1,av,v,av',hr,e=>by
   have him:∀ b,E.im b→imV ro E h b:=fun b hb=>.inl hb;refine Aah him ?_ av v av' hr (by simpa only [C4] using e);intro x y u hx hy;split at hy
   ·rename_i id
    split at hy
    ·rename_i o ho
     cases hc:(o.row && (!ro || o.ro)) with
     | false=>simp [hc] at hy
     | true =>
       simp only [hc,cond_true,Option.some.injEq] at hy;subst hy;simp only [Bool.and_eq_true,Bool.or_eq_true,Bool.not_eq_true'] at hc;simp only [Rd] at hx;obtain ⟨hl1,_,rfl⟩:=hx;obtain ⟨k1,k2⟩:=H.ob id o hl1 ho;rw [hc.1] at k2;obtain ⟨vs,a,cap,j1,j2,j3,j4,j5⟩:=k2;refine ⟨a,cap,vs,j1,?_,?_,j5,?_,j4,AZ.mono him (fun b hb=>rfl) _ _ _ j3⟩
       ·rcases j2.2 with ⟨hn,h0⟩|⟨g,c,cur,hv,_,_,hc',_⟩
        ·omega
        ·rw [j1] at hv; simp only [Value.slice.injEq] at hv; omega
       ·intro ha
        rcases j2.2 with ⟨hn,h0⟩|⟨g,c,cur,hv,_⟩
        ·rw [j1] at hn; simp only [Value.slice.injEq] at hn; exact hn.2.2
        ·rw [j1,ha] at hv; simp at hv
       ·intro i u hu
        rcases j2.2 with ⟨hn,h0⟩|⟨g,c,cur,hv,_⟩
        ·have:vs.length=0:=by rw [j2.1,h0,Nat.zero_mul]
         have:=(List.getElem?_eq_some_iff.1 hu).1
         omega
        ·have hb:Bz (E.val id)=some g:=by rw [hv]; rfl
         rw [j1] at hv;simp only [Value.slice.injEq] at hv;refine ⟨g,0,hv.1,.inr ⟨id,o,hl1,ho,hb,fun hro=>hc.2.elim (fun h=>by rw [hro] at h; cases h) (fun h=>h)⟩,?_⟩
         have:=j2.cells (g:=g) (by rw [j1,hv.1]; rfl) i u hu
         rw [CC] at this;exact this
    ·cases hy
   ·rename_i id i off
    split at hy
    ·rename_i o ho
     cases hc:(!ro || o.ro) with
     | false=>simp [hc] at hy
     | true =>
       simp only [hc,cond_true] at hy;simp only [Bool.or_eq_true,Bool.not_eq_true'] at hc
       have hro:ro=true→o.ro=true:=fun hro=>by
        rcases hc with h|h
        ·rw [hro] at h; cases h
        ·exact h
       simp only [Rd] at hx;obtain ⟨hl1,b,hbp,rfl⟩:=hx;have hb:=Oz hbp;obtain ⟨k1,k2⟩:=H.ob id o hl1 ho;cases hrow:o.row with
       | true =>
         simp only [hrow,cond_true,Option.some.injEq] at hy;subst hy;rw [hrow] at k2;obtain ⟨vs,a,cap,j1,j2,j3,j4,j5⟩:=k2;refine ⟨b,0,vs,by rw [k1,Nat.zero_add],?_,j4,AZ.mono him (fun b hb=>rfl) _ _ _ j3⟩;intro i u hu;rcases j2.2 with ⟨hn,h0⟩|⟨g,c,cur,hv,_⟩
         ·have:vs.length=0:=by rw [j2.1,h0,Nat.zero_mul]
          have:=(List.getElem?_eq_some_iff.1 hu).1
          omega
         ·have hb':Bz (E.val id)=some g:=by rw [hv]; rfl
          rw [hb] at hb';obtain rfl:=Option.some.inj hb';refine ⟨b,0,rfl,.inr ⟨id,o,hl1,ho,hb,hro⟩,?_⟩
          have:=j2.cells (g:=b) (by rw [hv]; rfl) i u hu
          rw [CC] at this;exact this
       | false =>
         simp only [hrow,cond_false] at hy;rw [hrow] at k2;obtain ⟨g,vs,cs,j1,j2,j3,j4,j5,j6⟩:=M1.box k2 hbp;rw [j3] at hy;simp only at hy;cases hm:Ij (C4 ro h n) cs with
         | none=>simp [hm] at hy
         | some l =>
           simp only [hm,Option.some.injEq] at hy;subst hy;have hb':Bz (E.val id)=some g:=by rw [j1]; rfl
           rw [hb] at hb';obtain rfl:=Option.some.inj hb';refine ⟨b,0,vs,by rw [k1,Nat.zero_add],?_,j6,⟨vs,[],by simp,j4,Jr him (fun x y v hx hy=>HS H n x v y hx hy) cs vs l j5 hm,rfl⟩⟩;intro i u hu;refine ⟨b,0,rfl,.inr ⟨id,o,hl1,ho,hb,hro⟩,?_⟩;simp only [World.cell?,j2];simpa using hu
    ·cases hy
   ·rename_i id off k
    split at hy
    ·rename_i o ho
     cases hc:(o.row && (!ro || o.ro)) with
     | false=>simp [hc] at hy
     | true =>
       simp only [hc,cond_true,Option.some.injEq] at hy;subst hy;simp only [Bool.and_eq_true,Bool.or_eq_true,Bool.not_eq_true'] at hc;simp only [Rd] at hx;obtain ⟨hl1,b,len,cap0,hval,hle,rfl⟩:=hx;obtain ⟨k1,k2⟩:=H.ob id o hl1 ho;rw [hc.1] at k2;obtain ⟨vs,a,cap,j1,j2,j3,j4,j5⟩:=k2;rw [hval] at j1;simp only [Value.slice.injEq] at j1;obtain ⟨ea,elen,ecap⟩:=j1;rcases j2.2 with ⟨hn,h0⟩|⟨g,c,cur,hv,hlo,hg,hc',hrest⟩
       ·rw [hval] at hn; cases hn
       ·have hv':=hv
        rw [hval] at hv';simp only [Value.slice.injEq,Option.some.injEq,Addr.mk.injEq] at hv';obtain ⟨⟨rfl,_⟩,_,ecc⟩:=hv';have elk:((o.es.drop off).take k).length=k:=by rw [List.length_take,List.length_drop]; omega
        refine ⟨some ⟨b,off * E.sz id,none⟩,cap0 - off,(vs.drop (off * o.sz)).take (k * o.sz),by rw [elk],by rw [elk]; omega,(fun h=>by cases h),by rw [elk]; omega,?_,fun u hu=>j4 u (List.mem_of_mem_drop (List.mem_of_mem_take hu)),AZ.mono him (fun b hb=>rfl) _ _ _ (AZ.takeV k (AZ.dropV off j3))⟩;intro i u hu;have hb:Bz (E.val id)=some b:=by rw [hval]; rfl
        refine ⟨b,off * E.sz id,rfl,.inr ⟨id,o,hl1,ho,hb,fun hro=>hc.2.elim (fun h=>by rw [hro] at h; cases h) (fun h=>h)⟩,?_⟩
        have hu':vs[off * o.sz+i]? = some u:=by
         rw [List.getElem?_take] at hu;split at hu
         ·rw [List.getElem?_drop] at hu; exact hu
         ·cases hu
        have:=j2.cells (g:=b) (by rw [hval]; rfl) (off * o.sz+i) u hu'
        rw [CC,Nat.zero_add] at this;rw [k1];exact this
    ·cases hy
   ·cases hy
def Bl (a b:AV):Prop:=∀ im w v,Dm im w a v→Dm im w b v
theorem Bl.refl (a:AV):Bl a a:=fun _ _ _ h=>h
theorem Bl.any (a:AV):Bl a .any:=fun _ _ _ _=>trivial
theorem Bl.nil (sz:Nat):Bl (.lit (.slice none 0 0)) (.sl sz []):=fun im w v h=>⟨none,0,[],h,Nat.le_refl _,fun _=>rfl,Nat.zero_le _,(fun i v h=>by simp at h),(fun u hu=>by cases hu),rfl⟩
theorem Bl.trans {a b c:AV} (h:Bl a b) (k:Bl b c):Bl a c:=fun im w v hv=>k im w v (h im w v hv)
def BE (a b:List AV):Prop:=∀ im w v,Be im w a v→Be im w b v
theorem BE.refl (a:List AV):BE a a:=fun _ _ _ h=>h
theorem BE.nil:BE [] []:=fun _ _ _ h=>h
theorem BE.cons {a b:AV} {l r:List AV} (h:Bl a b) (k:BE l r):BE (a::l) (b::r):=fun im w v hv=>by
 simp only [Be] at hv ⊢;obtain ⟨x,rest,h1,h2,h3⟩:=hv;exact ⟨x,rest,h1,h im w x h2,k im w rest h3⟩
theorem Bl.agg {l r:List AV} (h:BE l r):Bl (.agg l) (.agg r):=fun im w v hv=>by
 simp only [Dm] at hv ⊢;obtain ⟨vs,h1,h0,h2⟩:=hv;exact ⟨vs,h1,h0,h im w vs h2⟩
theorem Bl.tup {l r:List AV} (h:BE l r):Bl (.tup l) (.tup r):=fun im w v hv=>by
 simp only [Dm] at hv ⊢;obtain ⟨vs,h1,h2⟩:=hv;exact ⟨vs,h1,h im w vs h2⟩
def OI (P : Program) (f : FuncId) : Prop := ∃ fn, P.funcs[f]? = some fn ∧ (fn.name == "runtime.NumGoroutine") = false ∧ fn.body.isNone = false
structure Ae (P:Program) (f:FuncId) (args:List AV) (r:AV):Prop where
 able:OI P f
 calls:∀ (im:Nat→Prop) (w:World) (vs:List Value),(∀ b,im b→b<w.heap.size)→Be im w args vs →
  Calls P f vs.toArray w fun e w'=>∃ v im',e=.returned v∧Dm im' w' r v∧(∀ b,im b→im' b)∧(∀ b,im' b→im b∨w.heap.size≤b)∧(∀ b,im' b→b<w'.heap.size)∧Below w.heap.size w w'
theorem Ae.sub {P:Program} {f:FuncId} {args args':List AV} {r r':AV} (h:Ae P f args r) (ha:BE args' args) (hr:Bl r r'):Ae P f args' r' :=
 ⟨h.1,fun im w vs hlt hrd=>(h.2 im w vs hlt (ha im w vs hrd)).mono fun e w' ⟨v,im',h1,h2,h3⟩=>⟨v,im',h1,hr im' w' v h2,h3⟩⟩
def Js:Nat→List AV→List (Nat × AV)
 | _,[]=>[]
 | k,a::l=>(k,a)::Js (k+1) l
def G8 (s:St):KH→Option AV
 | .t n=>some (s.get n)
 | .c n g sz=>match s.get n with
   | .optr id 0 0=>match hl s.h id with
     | some o=>bif o.row then none else match o.es with
       | [cs]=>bif Nat.beq o.sz sz then HR g cs else none
       | _=>none
     | none=>none
   | _=>none
def RQ (s:St) (rs:List KH):Option AV :=
 match rs with
 | [r]=>G8 s r
 | rs=>match AR (G8 s) rs with|some l=>some (.tup l)|none=>none
def Ret (res:List KH) (r:AV) (s:St):Prop:=∃ r0 r1,RQ s res=some r0∧C4 false s.h 4 r0=some r1∧Bl r1 r
def Afy (res:List KH) (r:AV):Exit→St→Prop
 | .normal,s=>Ret res r s
 | .ret,s=>Ret res r s
 | _,_=>False
def Nh (P:Program) (r:ResultVar):Option KH:=match r with|.tmp t=>some (KH.t t)|.cell a t=>(EG P t).map fun q=>.c a q.1 q.2
def Aai (a:Act) (r:ResultVar):Sem Value:=match r with
 | .tmp t=>pure (a.tmps.getD t undef)
 | .cell p t=>do loadVar t (← asAddr (a.tmps.getD p undef))
theorem AjO {P:Program} {C:EH} {E:CK} {s:St} {a:Act} {w:World} (R:EP C E s a w) {r:ResultVar} {ar:KH} (hl':Nh P r=some ar) {av:AV} (hr:G8 s ar=some av) :
 ∃ v,(Aai a r).run P w=.ok v w∧Rd E w av v:=by
 cases r with
 | tmp t =>
   simp only [Nh,Option.some.injEq] at hl';subst hl';simp only [G8,Option.some.injEq] at hr;subst hr;exact ⟨_,rfl,R.tm t⟩
 | cell p t =>
   simp only [Nh,Option.map_eq_some_iff] at hl';obtain ⟨⟨g,n⟩,hs,rfl⟩:=hl';simp only [G8] at hr;split at hr
   ·rename_i id hp
    split at hr
    ·rename_i o ho
     cases hrow:o.row with
     | true=>simp [hrow] at hr
     | false =>
       simp only [hrow,cond_false] at hr;split at hr
       ·rename_i cs hes
        cases hb:Nat.beq o.sz n with
        | false=>simp [hb] at hr
        | true =>
          simp only [hb,cond_true] at hr;have hsz:=Nat.eq_of_beq_eq_true hb;have ht:=R.tm p;rw [hp] at ht;simp only [Rd] at ht;obtain ⟨hl1,b,hbp,hv⟩:=ht;have hb':=Oz hbp;obtain ⟨k1,k2⟩:=R.heap.ob id o hl1 ho;rw [hrow] at k2;obtain ⟨g',vs,cs',j1,j2,j3,j4,j5,j6⟩:=M1.box k2 hbp;rw [hes] at j3;obtain rfl:cs=cs':=by simpa using j3
          have hbg:Bz (E.val id)=some g':=by rw [j1]; rfl
          rw [hb'] at hbg;obtain rfl:=Option.some.inj hbg;simp only [Nat.zero_mul,Nat.add_zero] at hv;have hload:=KK (P:=P) (w:=w) (b:=b) (o:=0) (vs:=vs) hs (by rw [j4,hsz]) (fun i v hi=>by simp only [World.cell?,j2,Nat.zero_add]; simpa using hi);refine ⟨_,?_,Ng (n:=n) hr j6 j5⟩;simp only [Aai,hv,asAddr,Sem.run_bind,Sem.run_pure,Result.andThen_ok];exact hload
       ·cases hr
    ·cases hr
   ·cases hr
theorem Aaj {P:Program} {C:EH} {E:CK} {s:St} {a:Act} {w:World} (R:EP C E s a w):∀ {rs:List ResultVar} {ars:List KH} {avs:List AV},AR (Nh P) rs=some ars→AR (G8 s) ars=some avs →
 ∃ vs,(rs.mapM (Aai a)).run P w=.ok vs w∧B8 E w avs vs
 | [],ars,avs,h1,h2=>by
   simp only [AR,Option.some.injEq] at h1; subst h1;simp only [AR,Option.some.injEq] at h2; subst h2;exact ⟨[],rfl,rfl⟩
 | r::rs,ars,avs,h1,h2=>by
   simp only [AR] at h1;cases hr:Nh P r with
   | none=>simp [hr] at h1
   | some ar =>
     cases hrs:AR (Nh P) rs with
     | none=>simp [hr,hrs] at h1
     | some ars' =>
       simp only [hr,hrs,Option.some.injEq] at h1; subst h1;simp only [AR] at h2;cases ha:G8 s ar with
       | none=>simp [ha] at h2
       | some av =>
         cases has:AR (G8 s) ars' with
         | none=>simp [ha,has] at h2
         | some avs' =>
           simp only [ha,has,Option.some.injEq] at h2; subst h2;obtain ⟨v,e1,e2⟩:=AjO R hr ha;obtain ⟨vs,e3,e4⟩:=Aaj R hrs has;refine ⟨v::vs,?_,v,vs,rfl,e2,e4⟩;rw [List.mapM_cons,Sem.run_bind,e1];simp only [Result.andThen_ok,Sem.run_bind,e3,Sem.run_pure]
theorem KL {P:Program} {C:EH} {E:CK} {s:St} {a:Act} {w:World} (R:EP C E s a w) {fn:Func} {res:List KH} (hres:AR (Nh P) fn.results.toList=some res) {r0:AV} (hr:RQ s res=some r0) :
 ∃ v,(results fn a.tmps).run P w=.ok v w∧Rd E w r0 v:=by
 have e0:results fn a.tmps=(do
  let vs ← fn.results.mapM (Aai a)
  pure (if h:vs.size=1 then vs[0] else .tuple vs)):=rfl
 have hm:fn.results.mapM (Aai a)=Functor.map List.toArray (fn.results.toList.mapM (Aai a)):=Array.mapM_eq_mapM_toList ..;have key:∀ avs,AR (G8 s) res=some avs→∃ vs,(fn.results.toList.mapM (Aai a)).run P w=.ok vs w∧B8 E w avs vs:=fun avs h=>Aaj R hres h
 have e1:∀ vs,(fn.results.toList.mapM (Aai a)).run P w=.ok vs w→(results fn a.tmps).run P w=.ok (if h:vs.toArray.size=1 then vs.toArray[0] else .tuple vs.toArray) w:=fun vs h=>by
  rw [e0,hm,Sem.run_bind,map_eq_pure_bind,Sem.run_bind,h];simp only [Result.andThen_ok,Sem.run_pure]
 have many:∀ avs,AR (G8 s) res=some avs→avs.length≠1→r0=.tup avs→∃ v,(results fn a.tmps).run P w=.ok v w∧Rd E w r0 v:=by
  rintro avs h hn rfl;obtain ⟨vs,h1,h2⟩:=key avs h;refine ⟨_,e1 vs h1,?_⟩
  have hlen:¬ vs.toArray.size=1:=by
   have:=h2.length
   simp; omega
  rw [dif_neg hlen];exact ⟨vs,rfl,h2⟩
 match res,hr with
 | [r],hr =>
   simp only [RQ] at hr;obtain ⟨vs,h1,h2⟩:=key [r0] (by simp [AR,hr]);simp only [B8] at h2;obtain ⟨v,rest,rfl,h3,rfl⟩:=h2;exact ⟨_,e1 [v] h1,by simpa using h3⟩
 | [],hr =>
   simp only [RQ,AR,Option.some.injEq] at hr;exact many [] rfl (by simp) hr.symm
 | r::r'::rs,hr =>
   simp only [RQ] at hr;cases hall:AR (G8 s) (r::r'::rs) with
   | none=>simp [hall] at hr
   | some avs =>
     simp only [hall,Option.some.injEq] at hr;refine many avs hall ?_ hr.symm
     have:=(EI hall).1
     simp at this; omega
theorem LN {E:CK} {w:World}:∀ (args:List AV) (vs:List Value) (k n:Nat),B8 E w args vs→Rd E w (Fu (Js k args) n) (if k≤n then vs.getD (n - k) undef else undef)
 | [],vs,k,n,h=>by simp only [Js,Fu,look]; trivial
 | a::l,vs,k,n,h=>by
   simp only [B8] at h;obtain ⟨v,rest,rfl,h1,h2⟩:=h;by_cases hn:k=n
   ·subst hn; simpa [Js,Fu,look] using h1
   ·have ih:=LN l rest (k+1) n h2
    simp only [Js,Fu,look,Ej hn,cond_false];simp only [Fu] at ih;by_cases hk:k≤n
    ·rw [if_pos hk]
     rw [if_pos (by omega)] at ih;rw [show n - k=n - (k+1)+1 from by omega];simpa using ih
    ·rw [if_neg hk]
     rw [if_neg (by omega)] at ih;exact ih
theorem Be.length {im:Nat→Prop} {w:World}:∀ {l:List AV} {vs:List Value},Be im w l vs→vs.length=l.length
 | [],vs,h=>by simp only [Be] at h; simp [h]
 | a::l,vs,h=>by
   simp only [Be] at h;obtain ⟨v,rest,rfl,_,h3⟩:=h;simp [Be.length h3]
structure Aak (C:EH) (N:Nat):Prop where
 X:∀ b,¬ C.X b
 N:C.N=N
 m:C.m=0
 ds:C.ds=[]
theorem Cr.blk_lt {E:CK} {w:World} {h:Hp} (H:Cr E w h) {id:Nat} {o:OB} {b:Nat} (k1:E.live id) (k2:hl h id=some o) (k3:Bz (E.val id)=some b):b<w.heap.size:=by
 obtain ⟨j1,j2⟩:=H.ob id o k1 k2;cases hrow:o.row with
 | true =>
   rw [hrow] at j2;obtain ⟨vs,a,cap,i1,i2,_⟩:=j2;refine (i2.lt b ?_).2;rw [i1] at k3 ⊢;cases a<;>simp [Bz,Value.ownBlock] at k3 ⊢; exact k3
 | false =>
   rw [hrow] at j2;rcases j2 with ⟨_,g,vs,cs,i1,i2,_⟩|⟨_,g,es,clock,i1,i2,_⟩
   ·rw [i1] at k3
    simp only [Bz,Option.some.injEq] at k3;subst k3;exact (Array.getElem?_eq_some_iff.1 i2).1
   ·rw [i1] at k3
    simp only [Bz,Option.some.injEq] at k3;subst k3;exact (Array.getElem?_eq_some_iff.1 i2).1
theorem IR {P:Program} {f:FuncId} {F:A6} {args0:List AV} {r:AV} (hF:Ag P f=some F) (hlen:args0.length≤F.N) (h:∀ im (w:World) vs,(∀ b,im b→b<w.heap.size)→Be im w args0 vs→∃ args,Be im w args vs∧∀ C:EH,Aak C F.N→C.w0=w→C.E0.im=im→AW P C F.body (Afy F.res r) ⟨Js 0 args,[],0⟩):Ae P f args0 r:=by
 simp only [Ag] at hF;split at hF
 ·rename_i fn hfn
  split at hF
  ·rename_i b hb
   cases hnm : (fn.name == "runtime.NumGoroutine") with
   | true=>rw [hnm] at hF; cases hF
   | false =>
   rw [hnm,cond_false] at hF;refine ⟨⟨fn,hfn,hnm,by rw [hb]; rfl⟩,?_⟩;intro im w vs hlt hrd;obtain ⟨args,hrd',h⟩:=h im w vs hlt hrd;have hlen:args.length≤F.N:=by rw [← hrd'.length,hrd.length]; exact hlen
   replace hrd:=hrd'
   split at hF
   ·rename_i c res hc hres
    simp only [Option.some.injEq] at hF;subst hF
    let E0:CK:=⟨im,fun _=>False,fun _=>undef,fun _=>0⟩
    let C:EH:=⟨fun _=>False,w,fn.ntmps,E0,0,[]⟩
    have hC:Aak C fn.ntmps:=⟨fun _ h=>h,rfl,rfl,rfl⟩;have hvl:vs.length=args.length:=hrd.length;simp only at hlen
    have hR:EP C E0 ⟨Js 0 args,[],0⟩ { tmps:=vs.toArray++Array.replicate (fn.ntmps - vs.toArray.size) undef,defers:=[] } w:=by
     refine ⟨rfl,?_,fun n => ?_,⟨fun id o h=>h.elim,fun id id' o o' b h=>h.elim,fun id o b h=>h.elim,hlt⟩,fun id h=>h.elim,fun id o b h=>h.elim,fun id h=>absurd h (Nat.not_lt_zero _),fun b h=>h,fun b h=>.inl h,⟨rfl,rfl,rfl,Nat.le_refl _,fun _ _ _=>rfl⟩⟩
     ·show (vs.toArray++Array.replicate (fn.ntmps - vs.toArray.size) undef).size=fn.ntmps
      simp; omega
     ·have:=LN (E:=E0) (w:=w) args vs 0 n (Be.rd _ _ hrd)
      rw [if_pos (Nat.zero_le _),Nat.sub_zero] at this
      have e:(vs.toArray++Array.replicate (fn.ntmps - vs.toArray.size) undef).getD n undef=vs.getD n undef:=by
       simp only [Array.getD_eq_getD_getElem?,List.getD_eq_getElem?_getD,Array.getElem?_append];by_cases hn:n<vs.length
       ·simp [hn]
       ·rw [if_neg (by simpa using hn)]
        rw [List.getElem?_eq_none (by omega)];simp only [Array.getElem?_replicate];split<;>rfl
      show Rd E0 w (Fu (Js 0 args) n) ((vs.toArray++Array.replicate (fn.ntmps - vs.toArray.size) undef).getD n undef);rw [e]; exact this
    refine calls_of_wp hfn hb (wp_mono (h C hC rfl rfl b hc E0 _ w hR) ?_);rintro e a' w' ⟨E',s,hq,hR'⟩
    have Am:Ret res r s→a'.defers=[]∧∃ v,(results fn a'.tmps).run P w'=.ok v w'∧∃ v_1 im',Ending.returned v=.returned v_1∧Dm im' w' r v_1∧(∀ b,im b→im' b)∧(∀ b,im' b→im b∨w.heap.size≤b)∧(∀ b,im' b→b<w'.heap.size)∧Below w.heap.size w w':=by
     rintro ⟨r0,r1,h1,h2,h3⟩;obtain ⟨v,hv,hr⟩:=KL hR' hres h1;refine ⟨hR'.defers,v,hv,v,imV false E' s.h,rfl,h3 _ _ _ (HS hR'.heap 4 _ _ _ hr h2),fun b hb=>.inl (hR'.imx b hb),?_,?_,?_⟩
     ·rintro b (hb|⟨id,o,k1,k2,k3,_⟩)
      ·rcases hR'.imn b hb with h|h|h
       ·exact .inl h
       ·exact .inr h
       ·exact h.elim
      ·rcases hR'.own id o b k1 k2 k3 with h|h
       ·exact .inr h
       ·exact h.elim
     ·rintro b (hb|⟨id,o,k1,k2,k3,_⟩)
      ·exact hR'.heap.lt b hb
      ·exact hR'.heap.blk_lt k1 k2 k3
     ·exact ⟨hR'.frm.os,hR'.frm.tape,hR'.frm.output,hR'.frm.size,fun k hk=>hR'.frm.block k hk (fun h=>h)⟩
    cases e with
    | normal=>exact Am hq
    | ret=>exact Am hq
    | _=>exact hq.elim
   ·cases hF
  ·cases hF
 ·cases hF
theorem Aa {P:Program} {f:FuncId} {F:A6} {args:List AV} {r:AV} (hF:Ag P f=some F) (h:∀ C:EH,Aak C F.N→AW P C F.body (Afy F.res r) ⟨Js 0 args,[],0⟩) (hlen:args.length≤F.N:=by exact Nat.le_of_ble_eq_true rfl):Ae P f args r :=
 IR hF hlen fun im w vs _ hrd=>⟨args,hrd,fun C hC _ _=>h C hC⟩
theorem S3 {C:EH} {N n:Nat} {st:St} {v:Value} {av:AV} (hC:Aak C N) (hg:st.get n=.lit v) (h:Dm C.E0.im C.w0 av v) (hlt:∀ b,C.E0.im b→b<C.w0.heap.size):Ki C st ⟨(n,av)::st.t,st.h,st.nx⟩:=fun E a w R=>by
 refine ⟨E,R.defers,R.size,fun k => ?_,R.heap,R.nx,R.own,R.ext,R.imx,R.imn,R.frm⟩;by_cases hk:k=n
 ·subst hk
  have h1:a.tmps.getD k undef=v:=by have:=R.tm k; rw [hg] at this; exact this
  rw [h1];have e:St.get ⟨(k,av)::st.t,st.h,st.nx⟩ k=av:=CL st.t k av;rw [e];exact Dm.rd _ _ (Dm.mono R.imx (fun b hb=>R.frm.block b (hlt b hb) (fun x=>hC.X b x)) _ _ h)
 ·have e:St.get ⟨(n,av)::st.t,st.h,st.nx⟩ k=st.get k:=D7 st.t (some n) av k (by simpa using fun h=>hk h.symm)
  rw [e]; exact R.tm k
def OJ (P:Program) (o:Op):Ci→Prop
 | .mov x=>o=.move x∨o=.assign x
 | .pick c a b=>o=.pick c a b
 | .alloc e z=>o=.alloc e∧∃ sz by_,Ei P e=some (z,sz,by_)
 | .box e n x=>o=.box e x∧∃ g,EG P e=some (g,n)∧0<n
 | .build z ps=>∃ t l sz by_,o=.build t l∧Ei P t=some (z,sz,by_)∧AR (fun p:Nat × Operand=>(En P t p.1).map fun q=>(q.1,q.2,p.2)) l.toList=some ps∧Tv P t=true
 | .rowlit e sz len z ps=>∃ t l by_,o=.buildSlice t len l∧CE P t=some e∧Ei P e=some (z,sz,by_)∧len * sz≤16777216∧ps=l.toList∧∀ p ∈ ps,p.1<len
 | .load g n x=>∃ t,o=.load t x∧EG P t=some (g,n)
 | .store n p x=>∃ t g,o=.store t p x∧EG P t=some (g,n)
 | .nilck x=>o=.nilCheck x
 | .bin op x y=>∃ t t2,o=.binOp op t x y t2
 | .binB op x y=>∃ t t2,o=.binOp op t x y t2∧P.underlying t=some .bool
 | .binS op x y=>∃ t t2,o=.binOp op t x y t2∧P.underlying t=some .string
 | .eqv t neg x y=>∃ t2,o=.binOp (bif neg then .neq else .eql) t x y t2
 | .un op x=>∃ t,o=.unOp op t x
 | .conv k x=>∃ s d ds,o=.convert s d x∧P.underlying s=some ds∧P.underlying d=some (.int k)
 | .make e sz by_ z l c=>∃ t,o=.makeSlice t l c∧CE P t=some e∧Ei P e=some (z,sz,by_)
 | .slice sz x lo hi mx=>∃ t e g,o=.slice t x lo hi mx∧CE P t=some e∧EG P e=some (g,sz)
 | .faddr off x=>∃ t f fs fd g n,o=.fieldAddr t x f∧P.underlying t=some (.struct fs)∧fs[f]? = some fd∧EG P fd.type=some (g,n)∧0<n∧off=fd.offset
 | .field g off n x=>∃ t f fs fd,o=.field t x f∧P.underlying t=some (.struct fs)∧fs[f]? = some fd∧EG P fd.type=some (g,n)∧off=fd.offset
 | .iaddr sz x i=>∃ t e g,o=.indexAddr t x i∧P.underlying t=some (.slice e)∧EG P e=some (g,sz)∧0<sz
 | .iaddrA len sz x i=>∃ t e g,o=.indexAddr t x i∧P.underlying t=some (.array len e)∧EG P e=some (g,sz)
 | .idx g len sz x i=>∃ t e,o=.index t x i∧P.underlying t=some (.array len e)∧EG P e=some (g,sz)
 | .sidx x i=>∃ t,o=.index t x i∧P.underlying t=some .string
 | .extract i x=>o=.extract x i
 | .mkmap=>∃ t e,o=.makeMap t none∧Ih P t=some e
 | .look z ok x k=>∃ t e q,o=.lookup t x k ok∧Ih P t=some e∧Ei P e=some q∧(P.info? e).bind (·.zero)=some z
 | .lookG t x k=>o=.lookup t x k false
 | .mupd m k v=>∃ t e,o=.mapUpdate t m k v∧Ih P t=some e
 | .mdel m k=>∃ ts ty e,o=.call { callee:=.builtin .delete,args := #[m,k],argTypes:=ts }∧ts[0]? = some ty∧Ih P ty=some e
 | .mlen x=>∃ t e,o=.call { callee:=.builtin .len,args := #[x],argTypes := #[t] }∧Ih P t=some e
 | .len x=>∃ t,o=.call { callee:=.builtin .len,args := #[x],argTypes := #[t] }∧∃ e,P.underlying t=some (.slice e)
 | .slen x=>∃ t,o=.call { callee:=.builtin .len,args := #[x],argTypes := #[t] }∧P.underlying t=some .string
 | .append e sz by_ z s x=>∃ t,o=.call { callee:=.builtin .append,args := #[s,x],argTypes := #[t,t] }∧CE P t=some e∧Ei P e=some (z,sz,by_)
 | .appendZ e sz by_ z s n=>∃ t t' k,o=.call { callee:=.builtin .append,args := #[s,n],argTypes := #[t,t'] }∧CE P t=some e∧Ei P e=some (z,sz,by_)∧P.underlying t'=some (.int k)
 | .copy sz d s=>∃ t t' e g,o=.call { callee:=.builtin .copy,args := #[d,s],argTypes := #[t,t'] }∧CE P t=some e∧EG P e=some (g,sz)
 | .mm mx x y=>∃ l,o=.call { callee:=.builtin (bif mx then .max else .min),args := #[x,y],argTypes:=l }
 | .mx3 x y z=>∃ l,o=.call { callee:=.builtin .max,args := #[x,y,z],argTypes:=l }
 | .cap x=>∃ t e,o=.call { callee:=.builtin .cap,args := #[x],argTypes := #[t] }∧P.underlying t=some (.slice e)
 | .mkfn f fi ca=>o=.makeFunc (.func f) fi.toArray ca.toArray
 | .call f args=>∃ l,o=.call { callee:=.value f,args:=args.toArray,argTypes:=l }
 | .other _=>False
theorem AL {P:Program} {o:Op} {a:Ci} (h:Br P o=some a):OJ P o a:=by
 cases o
 case call c =>
  obtain ⟨callee,args,tys⟩:=c;cases callee with
  | value f =>
    simp only [Br,Option.some.injEq] at h;subst h;exact ⟨tys,by simp⟩
  | invoke r m=>simp [Br] at h
  | builtin b =>
    simp only [Br] at h;have ha:args=args.toList.toArray:=by simp
    have ht:tys=tys.toList.toArray:=by simp
    rw [ha,ht];generalize args.toList=al at h;generalize tys.toList=tl at h;clear ha ht;split at h
    ·rename_i x t
     split at h
     ·rename_i e hu; simp only [Option.some.injEq] at h; subst h; exact ⟨t,rfl,e,hu⟩
     ·rename_i hu; simp only [Option.some.injEq] at h; subst h; exact ⟨t,rfl,hu⟩
     ·split at h
      ·rename_i e he; simp only [Option.some.injEq] at h; subst h; exact ⟨t,e,rfl,he⟩
      ·cases h
     ·cases h
    ·rename_i m k t ts
     split at h
     ·rename_i e he; simp only [Option.some.injEq] at h; subst h; exact ⟨(t::ts).toArray,t,e,rfl,by simp,he⟩
     ·cases h
    ·rename_i s x t t'
     split at h
     ·rename_i hb
      have:=Nat.eq_of_beq_eq_true hb
      subst this;split at h
      ·rename_i e he
       split at h
       ·rename_i z sz by_ hz; simp only [Option.some.injEq] at h; subst h; exact ⟨t,rfl,he,hz⟩
       ·cases h
      ·cases h
     ·split at h
      ·rename_i e k he hk
       split at h
       ·rename_i z sz by_ hz; simp only [Option.some.injEq] at h; subst h; exact ⟨t,t',k,rfl,he,hz,hk⟩
       ·cases h
      ·cases h
    ·rename_i d s t t'
     split at h
     ·rename_i e e' he he'
      split at h
      ·rename_i g sz hz; simp only [Option.some.injEq] at h; subst h; exact ⟨t,t',e,g,rfl,he,hz⟩
      ·cases h
     ·cases h
    ·simp only [Option.some.injEq] at h; subst h; exact ⟨_,rfl⟩
    ·simp only [Option.some.injEq] at h; subst h; exact ⟨_,rfl⟩
    ·split at h
     ·rename_i e hu; simp only [Option.some.injEq] at h; subst h; exact ⟨_,e,rfl,hu⟩
     ·cases h
    ·simp only [Option.some.injEq] at h; subst h; exact ⟨_,rfl⟩
    ·cases h
 case makeFunc f fi ca =>
  cases f<;>simp only [Br] at h
  case func f=>simp only [Option.some.injEq] at h; subst h; simp [OJ]
  all_goals cases h
 case move x=>simp only [Br,Option.some.injEq] at h; subst h; exact .inl rfl
 case assign x=>simp only [Br,Option.some.injEq] at h; subst h; exact .inr rfl
 case pick c a b=>simp only [Br,Option.some.injEq] at h; subst h; rfl
 case nilCheck x=>simp only [Br,Option.some.injEq] at h; subst h; rfl
 case unOp op t x=>simp only [Br,Option.some.injEq] at h; subst h; exact ⟨t,rfl⟩
 case extract x i=>simp only [Br,Option.some.injEq] at h; subst h; rfl
 case alloc t =>
  simp only [Br] at h;split at h
  ·rename_i z sz b hz; simp only [Option.some.injEq] at h; subst h; exact ⟨rfl,sz,b,hz⟩
  ·cases h
 case box t x =>
  simp only [Br] at h;split at h
  ·rename_i g n hz
   split at h
   ·rename_i hb; simp only [Option.some.injEq] at h; subst h; exact ⟨rfl,g,hz,by simpa [Nat.blt_eq] using hb⟩
   ·cases h
  ·cases h
 case makeMap t r =>
  cases r with
  | some r=>simp [Br] at h
  | none =>
    simp only [Br] at h;split at h
    ·rename_i e he; simp only [Option.some.injEq] at h; subst h; exact ⟨t,e,rfl,he⟩
    ·cases h
 case lookup t x k ok =>
  simp only [Br] at h;split at h
  ·rename_i e he
   split at h
   ·rename_i q z hs hz; simp only [Option.some.injEq] at h; subst h; exact ⟨t,e,q,rfl,he,hs,hz⟩
   ·cases h
  ·cases ok
   ·simp only [cond_false,Option.some.injEq] at h; subst h; exact rfl
   ·simp only [cond_true] at h; cases h
 case mapUpdate t m k v =>
  simp only [Br] at h;split at h
  ·rename_i e he; simp only [Option.some.injEq] at h; subst h; exact ⟨t,e,rfl,he⟩
  ·cases h
 case build t ps =>
  simp only [Br] at h;split at h
  ·rename_i z sz b l hz hl
   split at h
   ·rename_i hf; simp only [Option.some.injEq] at h; subst h; exact ⟨t,ps,sz,b,rfl,hz,hl,hf⟩
   ·cases h
  ·cases h
 case buildSlice t len ps =>
  simp only [Br] at h;split at h
  ·rename_i e he
   split at h
   ·rename_i z sz b hz
    split at h
    ·rename_i hc
     simp only [Bool.and_eq_true,List.all_eq_true,Nat.blt_eq] at hc;simp only [Option.some.injEq] at h; subst h;exact ⟨t,ps,b,rfl,he,hz,Nat.le_of_ble_eq_true hc.1,rfl,hc.2⟩
    ·cases h
   ·cases h
  ·cases h
 case load t x =>
  simp only [Br] at h;split at h
  ·rename_i g n hz; simp only [Option.some.injEq] at h; subst h; exact ⟨t,rfl,hz⟩
  ·cases h
 case store t p x =>
  simp only [Br] at h;split at h
  ·rename_i g n hz; simp only [Option.some.injEq] at h; subst h; exact ⟨t,g,rfl,hz⟩
  ·cases h
 case binOp op t x y t2 =>
  simp only [Br] at h;split at h
  ·rename_i k hu; simp only [Option.some.injEq] at h; subst h; exact ⟨t,t2,rfl⟩
  ·rename_i hu; simp only [Option.some.injEq] at h; subst h; exact ⟨t,t2,rfl,hu⟩
  ·rename_i hu; simp only [Option.some.injEq] at h; subst h; exact ⟨t,t2,rfl,hu⟩
  ·split at h
   ·simp only [Option.some.injEq] at h; subst h; exact ⟨t2,rfl⟩
   ·simp only [Option.some.injEq] at h; subst h; exact ⟨t2,rfl⟩
   ·cases h
  ·cases h
 case convert s d x =>
  simp only [Br] at h;split at h
  ·rename_i ds k hs hd; simp only [Option.some.injEq] at h; subst h; exact ⟨s,d,ds,rfl,hs,hd⟩
  ·cases h
 case makeSlice t l c =>
  simp only [Br] at h;split at h
  ·rename_i e he
   split at h
   ·rename_i z sz b hz; simp only [Option.some.injEq] at h; subst h; exact ⟨t,rfl,he,hz⟩
   ·cases h
  ·cases h
 case slice t x lo hi mx =>
  simp only [Br] at h;split at h
  ·rename_i e he
   split at h
   ·rename_i g sz hz; simp only [Option.some.injEq] at h; subst h; exact ⟨t,e,g,rfl,he,hz⟩
   ·cases h
  ·cases h
 case fieldAddr t x f =>
  simp only [Br] at h;split at h
  ·rename_i fs hu
   split at h
   ·rename_i fd hf
    split at h
    ·rename_i g n hz
     split at h
     ·rename_i hn; simp only [Option.some.injEq] at h; subst h; exact ⟨t,f,fs,fd,g,n,rfl,hu,hf,hz,by simpa [Nat.blt_eq] using hn,rfl⟩
     ·cases h
    ·cases h
   ·cases h
  ·cases h
 case field t x f =>
  simp only [Br] at h;split at h
  ·rename_i fs hu
   split at h
   ·rename_i fd hf
    split at h
    ·rename_i g n hz; simp only [Option.some.injEq] at h; subst h; exact ⟨t,f,fs,fd,rfl,hu,hf,hz,rfl⟩
    ·cases h
   ·cases h
  ·cases h
 case indexAddr t x i =>
  simp only [Br] at h;split at h
  ·rename_i e hu
   split at h
   ·rename_i g n hz
    split at h
    ·rename_i hn; simp only [Option.some.injEq] at h; subst h; exact ⟨t,e,g,rfl,hu,hz,by simpa [Nat.blt_eq] using hn⟩
    ·cases h
   ·cases h
  ·rename_i len e hu
   split at h
   ·rename_i g n hz; simp only [Option.some.injEq] at h; subst h; exact ⟨t,e,g,rfl,hu,hz⟩
   ·cases h
  ·cases h
 case index t x i =>
  simp only [Br] at h;split at h
  ·rename_i len e hu
   split at h
   ·rename_i g n hz; simp only [Option.some.injEq] at h; subst h; exact ⟨t,e,rfl,hu,hz⟩
   ·cases h
  ·rename_i hu; simp only [Option.some.injEq] at h; subst h; exact ⟨t,rfl,hu⟩
  ·cases h
 all_goals (simp only [Br] at h; cases h)
def BD (st:St):Option (Nat × Bool)→Prop
 | none=>True
 | some (t,b)=>st.get t=.lit (.bool b)
def gNo (st:St):Option (Nat × Bool)→Prop
 | none=>False
 | some (t,b)=>st.get t=.lit (.bool (!b))
theorem TH {ops:Array Oper} {tmps:Array Value} {j t:Nat} {b:Bool} (h:(ops[j]?).bind (·.dst)=some t) (hb:tmps.getD t undef=.bool b):yielded ops tmps j=some b:=by
 unfold yielded;rw [h];simp only [Option.bind_some];rw [Array.getD_eq_getD_getElem?] at hb;cases ht:tmps[t]? with
 | none=>rw [ht] at hb; simp [undef] at hb
 | some v=>rw [ht] at hb; simp at hb; subst hb; rfl
theorem KM {i:AG} {t:Nat} {b:Bool} (h:i.g=some (t,b)):t ∈ i.reads:=by
 simp [AG.reads,h]
section
variable {P:Program} {N:Nat} {ops:Array Oper} {o:Oper} {i:AG} {C:EH} {E:CK} {a:Act} {w:World} {sx st:St}
theorem C2 (hlow:CR P N ops o=some i) (R:EP C E sx a w) (hag:∀ t ∈ i.reads,sx.get t=st.get t) (hg:BD st i.g):Region.wanted o (yielded ops a.tmps)=true:=by
 obtain ⟨h1,h2,h3,h4⟩:=Bp hlow;unfold Region.wanted;cases ho:o.guard with
 | none=>rfl
 | some p =>
   obtain ⟨j,b⟩:=p;rw [ho] at h4;obtain ⟨t,ht,e⟩:=h4;rw [e] at hg
   have:=R.tm t
   rw [hag t (KM e),show st.get t=.lit (.bool b) from hg] at this;simp only [TH ht this,beq_self_eq_true]
theorem RR (hlow:CR P N ops o=some i) (R:EP C E sx a w) (hag:∀ t ∈ i.reads,sx.get t=st.get t) (hg:gNo st i.g):Region.wanted o (yielded ops a.tmps)=false:=by
 obtain ⟨h1,h2,h3,h4⟩:=Bp hlow;unfold Region.wanted;cases ho:o.guard with
 | none=>rw [ho] at h4; rw [show i.g=none from h4] at hg; exact hg.elim
 | some p =>
   obtain ⟨j,b⟩:=p;rw [ho] at h4;obtain ⟨t,ht,e⟩:=h4;rw [e] at hg
   have:=R.tm t
   rw [hag t (KM e),show st.get t=.lit (.bool !b) from hg] at this;simp only [TH ht this];cases b<;>rfl
theorem AgN (hag:∀ t ∈ i.reads,sx.get t=st.get t) {x:Operand} (hx:x ∈ i.op.opds):ev sx x=ev st x:=by
 cases x with
 | tmp t=>exact hag t (by simp only [AG.reads,List.mem_append]; left; exact TB.2 hx)
 | _=>rfl
theorem Cv (R:EP C E sx a w) (hag:∀ t ∈ i.reads,sx.get t=st.get t) {x:Operand} (hx:x ∈ i.op.opds):Rd E w (ev st x) (a.eval x):=by
 rw [← AgN hag hx]; exact R.ev x
end
theorem AgO {a:Act} {d:Option Nat} {u:Value} {N:Nat} (hs:a.tmps.size=N) (hd:∀ k,d=some k→k<N) (n:Nat):(a.put d u).tmps.getD n undef=(if d=some n then u else a.tmps.getD n undef):=by
 cases d with
 | none=>rfl
 | some k =>
   simp only [Act.put,Array.getD_eq_getD_getElem?,Array.getElem?_setIfInBounds]
   have:=hd k rfl
   by_cases hk:k=n
   ·subst hk; simp [hs,this]
   ·simp [hk]
theorem TI (a:Act) (d:Option Nat) (u:Value):(a.put d u).defers=a.defers:=by cases d<;>rfl
theorem AgP (a:Act) (d:Option Nat) (u:Value):(a.put d u).tmps.size=a.tmps.size:=by cases d<;>simp [Act.put]
theorem EP.put {C:EH} {E:CK} {st:St} {a:Act} {w:World} (R:EP C E st a w) {d:Option Nat} (hd:∀ k,d=some k→k<C.N) {v:AV} {u:Value} (h:Rd E w v u):EP C E ⟨V8 st.t d v,st.h,st.nx⟩ (a.put d u) w:=by
 refine ⟨(TI a d u).trans R.defers,(AgP a d u).trans R.size,fun n => ?_,R.heap,R.nx,R.own,R.ext,R.imx,R.imn,R.frm⟩;rw [AgO R.size hd];show Rd E w (Fu (V8 st.t d v) n) _;by_cases hn:d=some n
 ·rw [if_pos hn,hn,CL]; exact h
 ·rw [if_neg hn,D7 _ _ _ _ hn]; exact R.tm n
theorem AjP {P:Program} {st:St} {i:AG} (hg:gNo st i.g):BS P st ⟨i,.any,[],[],0⟩:=by
 intro N ops o hlow C E a w sx hN R hag hh hnw K Q hK
 have:=RR hlow R hag hg
 rw [if_neg (by rw [this]; exact Bool.false_ne_true)];obtain ⟨h1,h2,h3,h4⟩:=Bp hlow;refine hK undef w E ?_ (fun id h=>.inl h)
 have:=R.put (d:=o.dst) (fun k hk=>by rw [hN]; exact h2 k hk) (v:=.any) (u:=undef) trivial
 simp only [St.appx,List.nil_append];rw [h1];exact this
theorem Bc {P:Program} {st:St} {i:AG} {v:AV} (rd:List Nat) (hg:BD st i.g)
 (h:∀ (o:Oper) (C:EH) (E:CK) (a:Act) (w:World) (sx:St),Br P o.op=some i.op→EP C E sx a w→(∀ x ∈ i.op.opds,Rd E w (ev st x) (a.eval x))→(∀ id ∈ rd,hl sx.h id=hl st.h id) →
  ∃ u,(execOp a.eval o).run P w=.ok (.value u) w∧Rd E w v u):BS P st ⟨i,v,rd,[],0⟩:=by
 intro N ops o hlow C E a w sx hN R hag hh hnw K Q hK;rw [if_pos (C2 hlow R hag hg)];obtain ⟨h1,h2,h3,h4⟩:=Bp hlow;obtain ⟨u,hu,hr⟩:=h o C E a w sx h3 R (fun x hx=>Cv R hag hx) (fun id hid=>hh id (.inl hid));unfold Oper.wp;rw [hu,Oper.upon_value];refine hK u w E ?_ (fun id h=>.inl h)
 have:=R.put (d:=o.dst) (fun k hk=>by rw [hN]; exact h2 k hk) hr
 simp only [St.appx,List.nil_append];rw [h1];exact this
theorem AX {E:CK} {w:World} {av:AV} {v u:Value} (h:Rd E w av v) (e:av=.lit u):v=u:=by subst e; exact h
section
variable {P:Program} {st:St} {d:Option Nat} {g:Option (Nat × Bool)}
theorem TJ {x:Operand} (hg:BD st g):BS P st ⟨⟨d,g,.mov x⟩,ev st x,[],[],0⟩ :=
 Bc [] hg fun o C E a w sx hlow R hr hh=>by
  have hx:=hr x (by simp [Ci.opds]);obtain ⟨dst,op,ty,pos,after,guard⟩:=o;rcases AL hlow with h|h<;>(simp only at h; subst h; exact ⟨_,rfl,hx⟩)
theorem AgQ {c x y:Operand} {b:Bool} (hg:BD st g) (hc:ev st c=.lit (.bool b)):BS P st ⟨⟨d,g,.pick c x y⟩,bif b then ev st x else ev st y,[],[],0⟩ :=
 Bc [] hg fun o C E a w sx hlow R hr hh=>by
  have h1:=AX (hr c (by simp [Ci.opds])) hc;have hx:=hr x (by simp [Ci.opds]);have hy:=hr y (by simp [Ci.opds]);obtain ⟨dst,op,ty,pos,after,guard⟩:=o;have h:=AL hlow;simp only [OJ] at h; subst h;cases b with
  | true=>exact ⟨_,by simp [execOp,h1,asBool],hx⟩
  | false=>exact ⟨_,by simp [execOp,h1,asBool],hy⟩
end
def BQ (op:BinOp) (k:IntKind) (a b:Int):Option Value :=
 match op with
 | .add=>some (.int k (k.wrap (a+b)))
 | .sub=>some (.int k (k.wrap (a - b)))
 | .mul=>some (.int k (k.wrap (a * b)))
 | .and=>some (.int k (k.wrap (BitVec.ofInt k.bits a &&& BitVec.ofInt k.bits b).toNat))
 | .or=>some (.int k (k.wrap (BitVec.ofInt k.bits a ||| BitVec.ofInt k.bits b).toNat))
 | .xor=>some (.int k (k.wrap (BitVec.ofInt k.bits a ^^^ BitVec.ofInt k.bits b).toNat))
 | .andNot=>some (.int k (k.wrap (BitVec.ofInt k.bits a &&& ~~~ BitVec.ofInt k.bits b).toNat))
 | .eql=>some (.bool (a == b))
 | .neq=>some (.bool (a != b))
 | .lss=>some (.bool (decide (a<b)))
 | .leq=>some (.bool (decide (a≤b)))
 | .gtr=>some (.bool (decide (a > b)))
 | .geq=>some (.bool (decide (a ≥ b)))
 | _=>none
section
variable {P:Program} {st:St} {d:Option Nat} {g:Option (Nat × Bool)}
theorem FX {w:World} (op:BinOp) (t:TypeId) (x y:Operand) (k k':IntKind) (a b:Int):(eqGuard op t x y (.int k a) (.int k' b)).run P w=.ok () w:=by
 cases op<;>rfl
theorem Eo {op:BinOp} {x y:Operand} {k:IntKind} {a b:Int} {v:Value} (hg:BD st g) (hx:ev st x=.lit (.int k a)) (hy:ev st y=.lit (.int k b)) (hv:BQ op k a b=some v):BS P st ⟨⟨d,g,.bin op x y⟩,.lit v,[],[],0⟩ :=
 Bc [] hg fun o C E ac w sx hlow R hr hh=>by
  have h1:=AX (hr x (by simp [Ci.opds])) hx;have h2:=AX (hr y (by simp [Ci.opds])) hy;obtain ⟨dst,o,ty,pos,after,guard⟩:=o;obtain ⟨t,t2,rfl⟩:=AL hlow;refine ⟨v,?_,rfl⟩
  have hb:(binOp op t (.int k a) (.int k b)).run P w=.ok v w:=by
   cases op<;>simp only [BQ,Option.some.injEq] at hv<;>first
    | (cases hv; done)
    | (subst hv; simp [binOp,Op.intArith,Op.intBits,Op.intCmp])
  simp only [execOp,h1,h2,Sem.run_bind,FX,Result.andThen_ok,hb,Sem.run_pure]
theorem AgR {x y:Operand} {k:IntKind} {a b:Int} (hg:BD st g) (hx:ev st x=.lit (.int k a)) (hy:ev st y=.lit (.int k b)) (hb:b≠0):BS P st ⟨⟨d,g,.bin .quo x y⟩,.lit (.int k (k.wrap (a.tdiv b))),[],[],0⟩ :=
 Bc [] hg fun o C E ac w sx hlow R hr hh=>by
  have h1:=AX (hr x (by simp [Ci.opds])) hx;have h2:=AX (hr y (by simp [Ci.opds])) hy;obtain ⟨dst,o,ty,pos,after,guard⟩:=o;obtain ⟨t,t2,rfl⟩:=AL hlow;refine ⟨_,?_,rfl⟩
  have hb:(binOp .quo t (.int k a) (.int k b)).run P w=.ok (.int k (k.wrap (a.tdiv b))) w:=by
   simp [binOp,Op.intDiv,hb]
  simp only [execOp,h1,h2,Sem.run_bind,FX,Result.andThen_ok,hb,Sem.run_pure]
theorem Ali {x y:Operand} {k:IntKind} {a b:Int} (hg:BD st g) (hx:ev st x=.lit (.int k a)) (hy:ev st y=.lit (.int k b)) (hb:b≠0):BS P st ⟨⟨d,g,.bin .rem x y⟩,.lit (.int k (a.tmod b)),[],[],0⟩ :=
 Bc [] hg fun o C E ac w sx hlow R hr hh=>by
  have h1:=AX (hr x (by simp [Ci.opds])) hx;have h2:=AX (hr y (by simp [Ci.opds])) hy;obtain ⟨dst,o,ty,pos,after,guard⟩:=o;obtain ⟨t,t2,rfl⟩:=AL hlow;refine ⟨_,?_,rfl⟩
  have hb:(binOp .rem t (.int k a) (.int k b)).run P w=.ok (.int k (a.tmod b)) w:=by
   simp [binOp,Op.intDiv,hb]
  simp only [execOp,h1,h2,Sem.run_bind,FX,Result.andThen_ok,hb,Sem.run_pure]
def S4 (op:BinOp) (a b:Bool):Option Value :=
 match op with
 | .eql=>some (.bool (a == b))
 | .neq=>some (.bool (!(a == b)))
 | _=>none
theorem X8 {w:World} (n:Nat) {t:TypeId} (hu:P.underlying t=some .bool) (a b:Bool):(Op.equalIn (n+1) t (.bool a) (.bool b)).run P w=.ok (a == b) w:=by
 simp only [Op.equalIn,Sem.run_bind,run_underlying hu w,Result.andThen_ok,Sem.run_pure]
theorem AlB {op:BinOp} {x y:Operand} {a b:Bool} {v:Value} (hg:BD st g) (hx:ev st x=.lit (.bool a)) (hy:ev st y=.lit (.bool b)) (hv:S4 op a b=some v):BS P st ⟨⟨d,g,.binB op x y⟩,.lit v,[],[],0⟩ :=
 Bc [] hg fun o C E ac w sx hlow R hr hh=>by
  have h1:=AX (hr x (by simp [Ci.opds])) hx;have h2:=AX (hr y (by simp [Ci.opds])) hy;obtain ⟨dst,o,ty,pos,after,guard⟩:=o;obtain ⟨t,t2,rfl,hu⟩:=AL hlow;refine ⟨v,?_,rfl⟩;have he:(Op.equal t (.bool a) (.bool b)).run P w=.ok (a == b) w:=X8 9999 hu a b
  have hb:(binOp op t (.bool a) (.bool b)).run P w=.ok v w:=by
   cases op<;>simp only [S4,Option.some.injEq] at hv<;>first
    | (cases hv; done)
    | (subst hv; simp [binOp,he])
  have hq:(eqGuard op t x y (.bool a) (.bool b)).run P w=.ok () w:=by cases op<;>rfl
  simp only [execOp,h1,h2,Sem.run_bind,hq,Result.andThen_ok,hb,Sem.run_pure]
theorem AgS {x:Operand} {b:Bool} (hg:BD st g) (hx:ev st x=.lit (.bool b)):BS P st ⟨⟨d,g,.un .not x⟩,.lit (.bool !b),[],[],0⟩ :=
 Bc [] hg fun o C E ac w sx hlow R hr hh=>by
  have h1:=AX (hr x (by simp [Ci.opds])) hx;obtain ⟨dst,o,ty,pos,after,guard⟩:=o;obtain ⟨t,rfl⟩:=AL hlow;exact ⟨_,by simp [execOp,h1,Op.unary],rfl⟩
theorem AgT {x:Operand} {k:IntKind} {n:Int} (hg:BD st g) (hx:ev st x=.lit (.int k n)):BS P st ⟨⟨d,g,.un .neg x⟩,.lit (.int k (k.wrap (0 - n))),[],[],0⟩ :=
 Bc [] hg fun o C E ac w sx hlow R hr hh=>by
  have h1:=AX (hr x (by simp [Ci.opds])) hx;obtain ⟨dst,o,ty,pos,after,guard⟩:=o;obtain ⟨t,rfl⟩:=AL hlow;exact ⟨_,by simp [execOp,h1,Op.unary,Op.intArith],rfl⟩
theorem TK {x:Operand} {k k0:IntKind} {n:Int} (hg:BD st g) (hx:ev st x=.lit (.int k0 n)):BS P st ⟨⟨d,g,.conv k x⟩,.lit (.int k (k.wrap n)),[],[],0⟩ :=
 Bc [] hg fun o C E ac w sx hlow R hr hh=>by
  have h1:=AX (hr x (by simp [Ci.opds])) hx;obtain ⟨dst,o,ty,pos,after,guard⟩:=o;obtain ⟨s,dd,ds,rfl,hs,hd⟩:=AL hlow;refine ⟨.int k (k.wrap n),?_,rfl⟩
  have hc:(convert s dd (.int k0 n)).run P w=.ok (.int k (k.wrap n)) w:=by
   unfold convert;rw [Sem.run_bind,run_underlying hs w,Result.andThen_ok,Sem.run_bind,run_underlying hd w,Result.andThen_ok];cases ds<;>rfl
  simp only [execOp,h1,Sem.run_bind,hc,Result.andThen_ok,Sem.run_pure]
theorem RS {w:World} {t:TypeId} {f:Nat} {fs:Array Field} {fd:Field} {gg:Bool} {n:Nat} (h1:P.underlying t=some (.struct fs)) (h2:fs[f]? = some fd) (h3:EG P fd.type=some (gg,n)) (h4:0<n) (b off:Nat) :
 (Instr.fieldAt t (.pointer (some ⟨b,off,none⟩)) f).run P w=.ok (.pointer (some ⟨b,off+fd.offset,none⟩)) w:=by
 obtain ⟨dd,i,k1,k2,k3,_⟩:=D9 h3;have hsz:(sizeOf fd.type).run P w=.ok n w:=by simp [sizeOf,typeInfo,k2,k3]
 have hn:¬ n=0:=by omega
 simp only [Instr.fieldAt,Sem.run_bind,run_underlying h1 w,Result.andThen_ok,h2,Instr.sureAddr,Sem.run_pure,fieldPlace,hsz,if_neg hn,CC]
theorem AjQ {x:Operand} {off id i off':Nat} (hg:BD st g) (hx:ev st x=.optr id i off'):BS P st ⟨⟨d,g,.faddr off x⟩,.optr id i (off'+off),[],[],0⟩ :=
 Bc [] hg fun o C E ac w sx hlow R hr hh=>by
  have h1:=hr x (by simp [Ci.opds]);rw [hx] at h1;obtain ⟨hl1,b,hb,hv⟩:=h1;obtain ⟨dst,o,ty,pos,after,guard⟩:=o;obtain ⟨t,f,fs,fd,gg,n,rfl,k1,k2,k3,k4,rfl⟩:=AL hlow;exact ⟨.pointer (some ⟨b,i * E.sz id+off'+fd.offset,none⟩),by simp only [execOp,hv,Sem.run_bind,RS k1 k2 k3 k4,Result.andThen_ok,Sem.run_pure],hl1,b,hb,by rw [Nat.add_assoc]⟩
theorem AgU {x:Operand} {off sz i off':Nat} {es:List (List AV)} (hg:BD st g) (hx:ev st x=.ep sz es i off'):BS P st ⟨⟨d,g,.faddr off x⟩,.ep sz es i (off'+off),[],[],0⟩ :=
 Bc [] hg fun o C E ac w sx hlow R hr hh=>by
  have h1:=hr x (by simp [Ci.opds]);rw [hx] at h1;obtain ⟨b,oo,vs,hv,h2,h3,h4⟩:=h1;obtain ⟨dst,o,ty,pos,after,guard⟩:=o;obtain ⟨t,f,fs,fd,gg,n,rfl,k1,k2,k3,k4,rfl⟩:=AL hlow;exact ⟨.pointer (some ⟨b,oo+(i * sz+off')+fd.offset,none⟩),by simp only [execOp,hv,Sem.run_bind,RS k1 k2 k3 k4,Result.andThen_ok,Sem.run_pure],b,oo,vs,by simp only [Nat.add_assoc],h2,h3,h4⟩
theorem AZ.get {im:Nat→Prop} {w:World} {sz:Nat}:∀ {es:List (List AV)} {vs:List Value} {i:Nat} {e:List AV},AZ im w sz es vs→es[i]? = some e→Be im w e ((vs.drop (i * sz)).take sz)∧((vs.drop (i * sz)).take sz).length=sz
 | [],vs,i,e,h,hi=>by simp at hi
 | e0::es,vs,0,e,h,hi=>by
   simp only [AZ] at h;obtain ⟨x,rest,rfl,h1,h2,h3⟩:=h;simp only [List.getElem?_cons_zero,Option.some.injEq] at hi;subst hi
   have:(x++rest).take sz=x:=by rw [← h1]; simp
   rw [Nat.zero_mul,List.drop_zero,this];exact ⟨h2,h1⟩
 | e0::es,vs,i+1,e,h,hi=>by
   simp only [AZ] at h;obtain ⟨x,rest,rfl,h1,h2,h3⟩:=h
   have:=AZ.get h3 (i:=i) (by simpa using hi)
   have hd:(x++rest).drop ((i+1) * sz)=rest.drop (i * sz):=by
    rw [Nat.add_mul,Nat.one_mul,Nat.add_comm,← List.drop_drop];congr 1;rw [← h1]; simp
   rw [hd]; exact this
theorem AgV {E:CK} {w:World} {id:Nat} {o:OB} {b:Nat} (h:G6 E w id o) (hbp:Tz (E.val id)=some b) :
 ∃ vs,(∀ j v,vs[j]? = some v→w.cell? ⟨b,j,none⟩=some v)∧Ft vs∧∀ i e,o.es[i]? = some e→B8 E w e ((vs.drop (i * o.sz)).take o.sz)∧((vs.drop (i * o.sz)).take o.sz).length=o.sz:=by
 have hb:=Oz hbp;obtain ⟨k1,k2⟩:=h;cases hrow:o.row with
 | true =>
   rw [hrow] at k2;obtain ⟨vs,a,cap,j1,j2,j3,j4,j5⟩:=k2;refine ⟨vs,fun j v hj => ?_,j4,fun i e hi => ?_⟩
   ·have hb':(E.val id).ownBlock=some b:=by rw [j1] at hb ⊢; cases a<;>simp [Bz,Value.ownBlock] at hb ⊢; exact hb
    have:=j2.cells hb' j v hj
    rw [CC] at this; simpa using this
   ·obtain ⟨r1,r2⟩:=j3.get hi
    exact ⟨Be.rd _ _ r1,r2⟩
 | false =>
   rw [hrow] at k2;obtain ⟨gg,vs,cs,j1,j2,j3,j4,j5,j6⟩:=M1.box k2 hbp;rw [j1] at hb;simp only [Bz,Option.some.injEq] at hb;subst hb;refine ⟨vs,fun j v hj=>by simp only [World.cell?,j2]; simpa using hj,j6,fun i e hi => ?_⟩;rw [j3] at hi;cases i with
   | zero =>
     simp only [List.getElem?_cons_zero,Option.some.injEq] at hi;subst hi;rw [Nat.zero_mul,List.drop_zero,List.take_of_length_le (by omega)];exact ⟨j5,j4⟩
   | succ i=>simp at hi
def cut (e:List AV) (off n:Nat):Option (List AV):=bif Nat.ble (off+n) e.length then some ((e.drop off).take n) else none
theorem Aal {e cs:List AV} {off n:Nat} (h:cut e off n=some cs):off+n≤e.length∧cs=(e.drop off).take n:=by
 unfold cut at h;cases hb:Nat.ble (off+n) e.length with
 | false=>simp [hb] at h
 | true=>simp only [hb,cond_true,Option.some.injEq] at h; exact ⟨Nat.le_of_ble_eq_true hb,h.symm⟩
theorem Aam {E:CK} {w:World} {t:TypeId} {gg:Bool} {n:Nat} (hs:EG P t=some (gg,n)) {b o sz i off:Nat} {vs:List Value} (hc:∀ j v,vs[j]? = some v→w.cell? ⟨b,o+j,none⟩=some v)
 (h1:Ft vs) {e cs:List AV} (hr:B8 E w e ((vs.drop (i * sz)).take sz)) (hlen:((vs.drop (i * sz)).take sz).length=sz) (hcut:cut e off n=some cs) {v:AV} (hv:HR gg cs=some v) :
 ∃ u,(Instr.loadAt t (.pointer (some ⟨b,o+(i * sz+off),none⟩))).run P w=.ok u w∧Rd E w v u:=by
 obtain ⟨c1,rfl⟩:=Aal hcut;have hel:=hr.length;rw [hlen] at hel
 have hcells:∀ j u,((((vs.drop (i * sz)).take sz).drop off).take n)[j]? = some u→w.cell? ⟨b,o+(i * sz+off)+j,none⟩=some u:=fun j u hj=>by
  rw [List.getElem?_take] at hj;split at hj
  ·rw [List.getElem?_drop,List.getElem?_take] at hj
   split at hj
   ·rw [List.getElem?_drop] at hj
    have:=hc _ u hj
    rw [show o+(i * sz+off)+j=o+(i * sz+(off+j)) from by omega]; exact this
   ·cases hj
  ·cases hj
 have hload:=KK (P:=P) (w:=w) (b:=b) (o:=o+(i * sz+off)) hs (by rw [List.length_take,List.length_drop,hlen]; omega) hcells;refine ⟨_,?_,Ng (n:=n) hv (fun u hu=>h1 u (List.mem_of_mem_drop (List.mem_of_mem_take (List.mem_of_mem_drop (List.mem_of_mem_take hu))))) ((hr.drop off).take n)⟩;simp only [Instr.loadAt,Instr.sureAddr,Sem.run_bind,Sem.run_pure,Result.andThen_ok];exact hload
theorem AcC {gg:Bool} {n:Nat} {x:Operand} {id i off:Nat} {ob:OB} {e cs:List AV} {v:AV} (hg:BD st g) (hx:ev st x=.optr id i off) (ho:hl st.h id=some ob) (he:ob.es[i]? = some e) (hcut:cut e off n=some cs) (hv:HR gg cs=some v) :
 BS P st ⟨⟨d,g,.load gg n x⟩,v,[id],[],0⟩ :=
  Bc [id] hg fun o C E ac w sx hlow R hr hh=>by
 have h1:=hr x (by simp [Ci.opds]);rw [hx] at h1;obtain ⟨hl1,b,hb,hpv⟩:=h1;obtain ⟨dst,o,ty,pos,after,guard⟩:=o;obtain ⟨t,rfl,hs⟩:=AL hlow;have hok:=R.heap.ob id ob hl1 (by rw [hh id (by simp)]; exact ho);obtain ⟨vs,k1,k2,k3⟩:=AgV hok hb;obtain ⟨r1,r2⟩:=k3 i e he;obtain ⟨u,hu,hru⟩:=Aam (P:=P) (o:=0) hs (fun j v hj=>by rw [Nat.zero_add]; exact k1 j v hj) k2 r1 r2 hcut hv;rw [Nat.zero_add,← hok.1] at hu;exact ⟨u,by simp only [execOp,hpv,Sem.run_bind,hu,Result.andThen_ok,Sem.run_pure],hru⟩
theorem AdP {gg:Bool} {n:Nat} {x:Operand} {sz i off:Nat} {es:List (List AV)} {e cs:List AV} {v:AV} (hg:BD st g) (hx:ev st x=.ep sz es i off) (he:es[i]? = some e) (hcut:cut e off n=some cs) (hv:HR gg cs=some v) :
 BS P st ⟨⟨d,g,.load gg n x⟩,v,[],[],0⟩ :=
  Bc [] hg fun o C E ac w sx hlow R hr hh=>by
 have h1:=hr x (by simp [Ci.opds]);rw [hx] at h1;obtain ⟨b,oo,vs,hpv,h2,h3,h4⟩:=h1;obtain ⟨dst,o,ty,pos,after,guard⟩:=o;obtain ⟨t,rfl,hs⟩:=AL hlow;obtain ⟨r1,r2⟩:=h4.get he
 obtain ⟨u,hu,hru⟩:=Aam (P:=P) (o:=oo) hs (fun j v hj=>by
  obtain ⟨b',o',e1,_,hc⟩:=h2 j v hj;simp only [Option.some.injEq,Addr.mk.injEq,and_true] at e1;obtain ⟨rfl,rfl⟩:=e1;exact hc) h3 (Be.rd (E:=E) _ _ r1) r2 hcut hv
 exact ⟨u,by simp only [execOp,hpv,Sem.run_bind,hu,Result.andThen_ok,Sem.run_pure],hru⟩
theorem Afz {i:Nat} {x:Operand} {vs:List AV} {v:AV} (hg:BD st g) (hx:ev st x=.tup vs) (hv:vs[i]? = some v):BS P st ⟨⟨d,g,.extract i x⟩,v,[],[],0⟩ :=
 Bc [] hg fun o C E ac w sx hlow R hr hh=>by
  have h1:=hr x (by simp [Ci.opds]);rw [hx] at h1;obtain ⟨us,hpv,hrl⟩:=h1;obtain ⟨u,hu,hru⟩:=hrl.get hv;obtain ⟨dst,o,ty,pos,after,guard⟩:=o;have h:=AL hlow;simp only [OJ] at h; subst h;exact ⟨u,by simp [execOp,hpv,Instr.extract,hu],hru⟩
theorem AjR {gg:Bool} {off n:Nat} {x:Operand} {cs cs':List AV} {v:AV} (hg:BD st g) (hx:ev st x=.agg cs) (hcut:cut cs off n=some cs') (hv:HR gg cs'=some v):BS P st ⟨⟨d,g,.field gg off n x⟩,v,[],[],0⟩ :=
 Bc [] hg fun o C E ac w sx hlow R hr hh=>by
  have h1:=hr x (by simp [Ci.opds]);rw [hx] at h1;obtain ⟨us,hpv,h0,hrl⟩:=h1;obtain ⟨dst,o,ty,pos,after,guard⟩:=o;obtain ⟨t,f,fs,fd,rfl,k1,k2,k3,rfl⟩:=AL hlow;obtain ⟨c1,rfl⟩:=Aal hcut;obtain ⟨dd,i,j1,j2,j3,j4,j5⟩:=D9 k3;have hl:=hrl.length;refine ⟨bif gg then .agg (((us.drop fd.offset).take n).toArray) else ((us.drop fd.offset).take n).getD 0 undef,?_,Ng (n:=n) hv (fun u hu=>h0 u (List.mem_of_mem_drop (List.mem_of_mem_take hu))) ((hrl.drop _).take n)⟩
  have hpart:(part fd.type us.toArray fd.offset).run P w=.ok (bif gg then .agg (((us.drop fd.offset).take n).toArray) else ((us.drop fd.offset).take n).getD 0 undef) w:=by
   have hagg:(isAgg fd.type).run P w=.ok gg w:=by
    unfold isAgg;rw [Sem.run_bind,run_underlying j1 w];rw [j4]; cases dd<;>rfl
   unfold part;rw [Sem.run_bind,hagg,Result.andThen_ok];cases gg with
   | true =>
     simp only [if_true,Sem.run_bind,sizeOf,typeInfo,cond_true];simp [j2,j3]
   | false =>
     have hn:=j5 rfl;subst hn;have hlt:fd.offset<us.length:=by omega
     simp [hlt,List.getD]
  simp only [execOp,hpv,Instr.field,Sem.run_bind,run_underlying k1 w,Result.andThen_ok,k2,asAgg,Sem.run_pure,hpart]
end
theorem TL {P:Program} {w:World} {t e:TypeId} (hu:P.underlying t=some (.slice e)) (a:Option Addr) (n c:Nat):(binOp .eql t (.slice a n c) (.slice none 0 0)).run P w=.ok (.bool a.isNone) w:=Lib.run_eql_slice_nil w t e a n c 0 0 hu
theorem AlC {P:Program} {st:St} {d:Option Nat} {g:Option (Nat × Bool)} {t e:TypeId} {x y:Operand} {a:Option Addr} {n c:Nat} (hu:P.underlying t=some (.slice e)) (hg:BD st g) (hx:ev st x=.lit (.slice a n c)) (hy:ev st y=.lit (.slice none 0 0)):BS P st ⟨⟨d,g,.eqv t false x y⟩,.lit (.bool a.isNone),[],[],0⟩ :=
 Bc [] hg fun o C E ac w sx hlow R hr hh=>by
  have h1:=AX (hr x (by simp [Ci.opds])) hx;have h2:=AX (hr y (by simp [Ci.opds])) hy;obtain ⟨dst,o,ty,pos,after,guard⟩:=o;obtain ⟨t2,rfl⟩:=AL hlow;refine ⟨_,?_,rfl⟩;have hq:(eqGuard .eql t x y (.slice a n c) (.slice none 0 0)).run P w=.ok () w:=rfl;simp only [execOp,h1,h2,Sem.run_bind,cond_false,hq,Result.andThen_ok,TL hu,Sem.run_pure]
def Aan:AV→Bool
 | .any=>true
 | .lit _=>true
 | .tup l=>l.all fun x=>match x with|.any=>true|.lit _=>true|_=>false
 | _=>false
theorem Aao {im:Nat→Prop} {E:CK} {w w':World}:∀ {l:List AV} {vs:List Value},(l.all fun x=>match x with|.any=>true|.lit _=>true|_=>false)=true→Be im w l vs→B8 E w' l vs
 | [],vs,_,h=>h
 | a::l,vs,hs,h=>by
   simp only [List.all_cons,Bool.and_eq_true] at hs;simp only [Be] at h;obtain ⟨v,rest,h1,h2,h3⟩:=h;refine ⟨v,rest,h1,?_,Aao hs.2 h3⟩;cases a<;>simp at hs<;>first|trivial|exact h2
theorem AjS {im:Nat→Prop} {E:CK} {w w':World} {r:AV} {v:Value} (hs:Aan r=true) (h:Dm im w r v):Rd E w' r v:=by
 cases r<;>simp only [Aan] at hs<;>first
  | (cases hs; done)
  | trivial
  | exact h
  | skip
 simp only [Dm] at h;obtain ⟨vs,h1,h2⟩:=h;exact ⟨vs,h1,Aao hs h2⟩
def restr (rd:List Nat) (h:Hp):Hp:=rd.map fun id=>(id,hl h id)
theorem Aap {h:Hp} {id:Nat} {o:OB}:∀ {rd:List Nat},hl (restr rd h) id=some o→id ∈ rd∧hl h id=some o
 | [],e=>by simp [restr,hl,look] at e
 | k::rd,e=>by
   by_cases hk:k=id
   ·subst hk
    simp only [restr,List.map_cons,hl,look,Nat.beq_refl,cond_true] at e;refine ⟨by simp,?_⟩;split at e
    ·rename_i o' ho; simp only [Option.some.injEq] at e ho; rw [← e]; exact ho
    ·cases e
   ·have:hl (restr (k::rd) h) id=hl (restr rd h) id:=by simp only [restr,List.map_cons,hl,look,Ej hk,cond_false]
    rw [this] at e;obtain ⟨h1,h2⟩:=Aap e;exact ⟨List.mem_cons_of_mem _ h1,h2⟩
theorem Cr.restr {E:CK} {w:World} {h h':Hp} {rd:List Nat} (H:Cr E w h) (e:∀ id ∈ rd,hl h id=hl h' id):Cr E w (restr rd h'):=by
 have key:∀ id o,hl (Go.Proofs.YtjcolpcfcdkckaaGreat.restr rd h') id=some o→hl h id=some o:=fun id o ho=>by
  obtain ⟨h1,h2⟩:=Aap ho;rw [e id h1]; exact h2
 exact ⟨fun id o h1 h2=>H.ob id o h1 (key id o h2),fun id id' o o' b h1 h2 h3 h4=>H.apart id id' o o' b h1 h2 (key _ _ h3) (key _ _ h4),fun id o b h1 h2=>H.im id o b h1 (key _ _ h2),H.lt⟩
mutual
def Gx (k:Nat→List Nat):AV→List Nat
 | .own id=>k id
 | .optr id _ _=>k id
 | .osl id _ _=>k id
 | .agg cs=>X9 k cs
 | .tup cs=>X9 k cs
 | .fn _ fi ca=>X9 k fi++X9 k ca
 | _=>[]
def X9 (k:Nat→List Nat):List AV→List Nat
 | []=>[]
 | a::l=>Gx k a++X9 k l
end
def OK (h:Hp):Nat→AV→List Nat
 | 0,_=>[]
 | n+1,av=>Gx (fun id=>id::match hl h id with
   | some o=>bif o.row || Nat.beq o.sz 0 then [] else match o.es with|[cs]=>X9 (fun id=>OK h n (.own id)) cs|_=>[]
   | none=>[]) av
theorem G6.mono {E E':CK} {w w':World} {id:Nat} {o:OB} (h:G6 E w id o) (hid:E'.val id=E.val id∧E'.sz id=E.sz id) (hl:∀ id,E.live id→E'.live id∧E'.val id=E.val id∧E'.sz id=E.sz id) (hi:∀ b,E.im b→E'.im b)
 (hw:∀ b,E.im b→w'.heap[b]? = w.heap[b]?) (hb:∀ b,Bz (E.val id)=some b→w'.heap[b]? = w.heap[b]?):G6 E' w' id o:=by
 obtain ⟨k1,k2⟩:=h;refine ⟨by rw [hid.2]; exact k1,?_⟩;cases hrow:o.row with
 | true =>
   rw [hrow] at k2;obtain ⟨vs,a,cap,j1,j2,j3,j4,j5⟩:=k2;refine ⟨vs,a,cap,by rw [hid.1]; exact j1,?_,AZ.mono hi hw _ _ _ j3,j4,j5⟩;rw [hid.1];refine ⟨j2.1,?_⟩;rcases j2.2 with h|⟨g,c,cur,hv,h0,hg,rest⟩
   ·exact .inl h
   ·exact .inr ⟨g,c,cur,hv,h0,by rw [hb g (by rw [hv]; rfl)]; exact hg,rest⟩
 | false =>
   rw [hrow] at k2;rcases k2 with ⟨hz,g,vs,cs,j1,j2,j3,j4,j5,j6⟩|⟨hz,g,es,clock,j1,j2,j3,j4⟩
   ·exact .inl ⟨hz,g,vs,cs,by rw [hid.1]; exact j1,by rw [hb g (by rw [j1]; rfl)]; exact j2,j3,j4,B8.mono hl hi hw _ _ j5,j6⟩
   ·exact .inr ⟨hz,g,es,clock,by rw [hid.1]; exact j1,by rw [hb g (by rw [j1]; rfl)]; exact j2,RdM.imp (fun cs vs=>Be.mono hi hw cs vs) _ _ j3,j4⟩
theorem EP.grow {C:EH} {E E':CK} {st:St} {a:Act} {w w':World} (R:EP C E st a w) (hx:Ext E E' w w') (hlv:∀ id,E'.live id→E.live id):EP C E' st a w':=by
 have hw:∀ b,E.im b→w'.heap[b]? = w.heap[b]? := fun b hb=>hx.bel.block b (R.heap.lt b hb);have hval:∀ id,E'.live id→E'.val id=E.val id:=fun id h=>(hx.live id (hlv id h)).2.1;refine ⟨R.defers,R.size,fun n=>Rd.mono hx.live hx.im hw _ _ (R.tm n),⟨?_,?_,?_,hx.lt⟩,fun id h=>R.nx id (hlv id h),?_,?_,fun b hb=>hx.im b (R.imx b hb),?_,?_⟩
 ·intro id o h1 h2
  have hl1:=hlv id h1;exact (R.heap.ob id o hl1 h2).mono (hx.live id hl1).2 hx.live hx.im hw (fun b hb=>hx.bel.block b (R.heap.blk_lt hl1 h2 hb))
 ·intro id id' o o' b h1 h2 h3 h4 h5 h6
  rw [hval id h1] at h5; rw [hval id' h2] at h6;exact R.heap.apart id id' o o' b (hlv _ h1) (hlv _ h2) h3 h4 h5 h6
 ·intro id o b h1 h2 h3
  rw [hval id h1] at h3;have hl1:=hlv id h1;rw [← R.heap.im id o b hl1 h2 h3];constructor
  ·intro h
   rcases hx.new b h with h|h
   ·exact h
   ·have:=R.heap.blk_lt hl1 h2 h3; omega
  ·exact hx.im b
 ·intro id o b h1 h2 h3
  rw [hval id h1] at h3;exact R.own id o b (hlv _ h1) h2 h3
 ·intro id hid
  obtain ⟨k1,k2,k3⟩:=R.ext id hid;obtain ⟨j1,j2,j3⟩:=hx.live id k1;exact ⟨j1,by rw [j2]; exact k2,by rw [j3]; exact k3⟩
 ·intro b hb
  rcases hx.new b hb with h|h
  ·exact R.imn b h
  ·have:=R.frm.size; exact .inr (.inl (by omega))
 ·exact ⟨hx.bel.os.trans R.frm.os,hx.bel.tape.trans R.frm.tape,hx.bel.output.trans R.frm.output,Nat.le_trans R.frm.size hx.bel.size,fun k hk hX=>(hx.bel.block k (Nat.lt_of_lt_of_le hk R.frm.size)).trans (R.frm.block k hk hX)⟩
section
variable {P:Program} {st:St} {d:Option Nat} {g:Option (Nat × Bool)}
theorem AdQ {w:World} {ρ:Operand→Value} {t:TypeId} {x:Operand} {dst:Option Tmp} {ty:TypeId} {pos:String} {after:Array Edge} {guard:Option (Nat × Bool)} {n:Nat} {a:Option Addr} {c:Nat} {e:TypeId}
 (he:P.underlying t=some (.slice e)) (hx:ρ x=.slice a n c) :
 (execOp ρ ⟨dst,.call { callee:=.builtin .len,args := #[x],argTypes := #[t] },ty,pos,after,guard⟩).run P w=.ok (.value (.int .i64 n)) w:=by
 have hlen:(Builtin.len_ #[t] ty #[ρ x]).run P w=.ok (.int .i64 n) w:=by
  rw [hx];simp [Builtin.len_,run_underlying he w,goInt]
 simp only [execOp,resolve,Sem.run_bind,Sem.run_pure,Result.andThen_ok,invoke,builtin,List.map_toArray,List.map_cons,List.map_nil,hlen]
theorem AmR {x:Operand} {sz:Nat} {es:List (List AV)} (hg:BD st g) (hx:ev st x=.sl sz es):BS P st ⟨⟨d,g,.len x⟩,.lit (.int .i64 es.length),[],[],0⟩ :=
 Bc [] hg fun o C E ac w sx hlow R hr hh=>by
  have h1:=hr x (by simp [Ci.opds]);rw [hx] at h1;obtain ⟨a,cap,vs,hv,_⟩:=h1;obtain ⟨dst,o,ty,pos,after,guard⟩:=o;obtain ⟨t,rfl,e,he⟩:=AL hlow;exact ⟨_,AdQ he hv,rfl⟩
theorem AlD {x:Operand} {id:Nat} {ob:OB} (hg:BD st g) (hx:ev st x=.own id) (ho:hl st.h id=some ob) (hrow:ob.row=true):BS P st ⟨⟨d,g,.len x⟩,.lit (.int .i64 ob.es.length),[id],[],0⟩ :=
 Bc [id] hg fun o C E ac w sx hlow R hr hh=>by
  have h1:=hr x (by simp [Ci.opds]);rw [hx] at h1;obtain ⟨hl1,_,hv⟩:=h1;obtain ⟨dst,o,ty,pos,after,guard⟩:=o;obtain ⟨t,rfl,e,he⟩:=AL hlow;obtain ⟨k1,k2⟩:=R.heap.ob id ob hl1 (by rw [hh id (by simp)]; exact ho);rw [hrow] at k2;obtain ⟨vs,a,cap,j1,_⟩:=k2;exact ⟨_,AdQ he (hv.trans j1),rfl⟩
theorem KN {w:World} {t e:TypeId} {gg:Bool} {sz:Nat} {k:IntKind} {z:Int} {a:Addr} {n c:Nat} (hu:P.underlying t=some (.slice e)) (hs:EG P e=some (gg,sz)) (h0:0≤z) (h1:z<n) :
 (Instr.indexAt t (.slice (some a) n c) (.int k z)).run P w=.ok (.pointer (some (a.add (z.toNat * sz)))) w:=by
 obtain ⟨dd,i,k1,k2,k3,_⟩:=D9 hs;have hsz:(sizeOf e).run P w=.ok sz w:=by simp [sizeOf,typeInfo,k2,k3]
 simp only [Instr.indexAt,asIntOf,Sem.run_bind,Sem.run_pure,Result.andThen_ok,run_underlying hu w,if_pos (And.intro h0 h1),hsz]
theorem AjT {x y:Operand} {sz:Nat} {es:List (List AV)} {k:IntKind} {z:Int} (hg:BD st g) (hx:ev st x=.sl sz es) (hy:ev st y=.lit (.int k z)) (h0:0≤z) (h1:z<es.length):BS P st ⟨⟨d,g,.iaddr sz x y⟩,.ep sz es z.toNat 0,[],[],0⟩ :=
 Bc [] hg fun o C E ac w sx hlow R hr hh=>by
  have hv:=hr x (by simp [Ci.opds]);have hz:=AX (hr y (by simp [Ci.opds])) hy;rw [hx] at hv;obtain ⟨a,cap,vs,hv,hle,hnil,hmax,hat,h1s,hrd⟩:=hv;obtain ⟨dst,o,ty,pos,after,guard⟩:=o;obtain ⟨t,e,gg,rfl,hu,hs,hpos⟩:=AL hlow
  obtain ⟨b,off,rfl⟩:∃ b off,a=some ⟨b,off,none⟩:=by
   cases a with
   | none=>have:=hnil rfl; omega
   | some aa =>
     obtain ⟨e0,he0⟩:∃ e0,es[0]? = some e0:=⟨es[0]'(by omega),by simp⟩;have hsz:=(hrd.get he0).2;rw [Nat.zero_mul,List.drop_zero] at hsz
     obtain ⟨v0,hv0⟩:∃ v0,vs[0]? = some v0:=by
      have:0<vs.length:=by rw [List.length_take] at hsz; omega
      exact ⟨vs[0],by simp [this]⟩
     obtain ⟨b,off,e1,_⟩:=hat 0 v0 hv0;exact ⟨b,off,e1⟩
  refine ⟨.pointer (some ⟨b,off+(z.toNat * sz+0),none⟩),?_,b,off,vs,rfl,hat,h1s,hrd⟩;simp only [execOp,hv,hz,Sem.run_bind,KN hu hs h0 h1,CC,Result.andThen_ok,Sem.run_pure,Nat.add_zero]
theorem AgW {x y:Operand} {sz id:Nat} {ob:OB} {k:IntKind} {z:Int} (hg:BD st g) (hx:ev st x=.own id) (ho:hl st.h id=some ob) (hrow:ob.row=true) (hsz:ob.sz=sz) (hy:ev st y=.lit (.int k z)) (h0:0≤z) (h1:z<ob.es.length):BS P st ⟨⟨d,g,.iaddr sz x y⟩,.optr id z.toNat 0,[id],[],0⟩ :=
 Bc [id] hg fun o C E ac w sx hlow R hr hh=>by
  have hv:=hr x (by simp [Ci.opds]);have hz:=AX (hr y (by simp [Ci.opds])) hy;rw [hx] at hv;obtain ⟨hl1,_,hv⟩:=hv;obtain ⟨dst,o,ty,pos,after,guard⟩:=o;obtain ⟨t,e,gg,rfl,hu,hs,hpos⟩:=AL hlow;obtain ⟨k1,k2⟩:=R.heap.ob id ob hl1 (by rw [hh id (by simp)]; exact ho);rw [hrow] at k2;obtain ⟨vs,a,cap,j1,j2,_⟩:=k2;rcases j2.2 with ⟨_,h00⟩|⟨b,c,cur,hvv,_⟩
  ·omega
  ·refine ⟨.pointer (some ⟨b,z.toNat * E.sz id+0,none⟩),?_,hl1,b,by rw [hvv]; rfl,rfl⟩
   have hvv':ac.eval x=.slice (some ⟨b,0,none⟩) ob.es.length c:=hv.trans hvv;simp only [execOp,hvv',hz,Sem.run_bind,KN hu hs h0 h1,CC,Result.andThen_ok,Sem.run_pure,Nat.add_zero,Nat.zero_add,k1,hsz]
theorem OL {E:CK} {ac:Act} {w:World}:∀ {l:List Operand},(∀ x ∈ l,Rd E w (ev st x) (ac.eval x))→B8 E w (l.map (ev st)) (l.map ac.eval)
 | [],_=>rfl
 | x::l,h=>⟨_,_,rfl,h x (by simp),OL (fun y hy=>h y (List.mem_cons_of_mem _ hy))⟩
theorem AlE {f:FuncId} {fi ca:List Operand} (hg:BD st g):BS P st ⟨⟨d,g,.mkfn f fi ca⟩,.fn f (fi.map (ev st)) (ca.map (ev st)),[],[],0⟩ :=
 Bc [] hg fun o C E ac w sx hlow R hr hh=>by
  obtain ⟨dst,o,ty,pos,after,guard⟩:=o;have h:=AL hlow;simp only [OJ] at h; subst h;refine ⟨.func (.func f) (fi.map ac.eval).toArray (ca.map ac.eval).toArray,by simp [execOp,Instr.makeFunc],fi.map ac.eval,ca.map ac.eval,rfl,OL (fun x hx=>hr x (by simp [Ci.opds,hx])),OL (fun x hx=>hr x (by simp [Ci.opds,hx]))⟩
theorem Jt {w : World} {f : FuncId} {fn : Func} {vs : Array Value} (h1 : P.funcs[f]? = some fn) (h2 : (fn.name == "runtime.NumGoroutine") = false) (h3 : fn.body.isNone = false) : (callFunc f vs).run P w = .ok (.enter f vs) w := by
 have hp:(program).run P w=.ok P w:=rfl;simp only [callFunc,Sem.run_bind,hp,Result.andThen_ok,h1,h2,h3,Bool.false_eq_true,if_false,Sem.run_pure]
theorem Qx {fo:Operand} {args:List Operand} {f:FuncId} {fi ca avs avs':List AV} {r:AV} (ro:Bool) (rd:List Nat) (hg:BD st g) (hf:ev st fo=.fn f fi ca)
 (hv:AR (C4 ro (restr rd st.h) 4) (fi++(args.map (ev st)++ca))=some avs) (hs:BE avs avs') (hc:Ae P f avs' r) (hro:(ro || Aan r)=true):BS P st ⟨⟨d,g,.call fo args⟩,r,rd,[],0⟩:=by
 intro N ops o hlow C E a w sx hN R hag hh hnw K Q hK;rw [if_pos (C2 hlow R hag hg)];obtain ⟨h1,h2,h3,h4⟩:=Bp hlow;have hr:∀ x ∈ fo::args,Rd E w (ev st x) (a.eval x):=fun x hx=>Cv R hag (by simpa [Ci.opds] using hx);have hfv:=hr fo (by simp);rw [hf] at hfv;obtain ⟨vs,us,hfv,hfi,hca⟩:=hfv;have hargs:B8 E w (args.map (ev st)) (args.map a.eval):=OL (fun x hx=>hr x (List.mem_cons_of_mem _ hx));have hall:B8 E w (fi++(args.map (ev st)++ca)) (vs++(args.map a.eval++us)):=hfi.append (hargs.append hca);have H0:Cr E w (restr rd st.h):=R.heap.restr (fun id hid=>hh id (.inl hid))
 have hview:∀ {l:List AV} {vals:List Value} {l':List AV},B8 E w l vals→AR (C4 ro (restr rd st.h) 4) l=some l'→Be (imV ro E (restr rd st.h)) w l' vals:=by
  intro l
  induction l with
  | nil=>intro vals l' hrl he; simp only [AR,Option.some.injEq] at he; subst he; exact hrl
  | cons x l ih =>
    intro vals l' hrl he;simp only [AR] at he;cases hx:C4 ro (restr rd st.h) 4 x with
    | none=>simp [hx] at he
    | some y =>
      cases hl':AR (C4 ro (restr rd st.h) 4) l with
      | none=>simp [hx,hl'] at he
      | some l'' =>
        simp only [hx,hl',Option.some.injEq] at he;subst he;obtain ⟨v,rest,e1,e2,e3⟩:=hrl;exact ⟨v,rest,e1,HS H0 4 x v y e2 hx,ih e3 hl'⟩
 have him:∀ b,imV ro E (restr rd st.h) b→b<w.heap.size:=by
  rintro b (hb|⟨id,ob,k1,k2,k3,_⟩)
  ·exact H0.lt b hb
  ·exact H0.blk_lt k1 k2 k3
 obtain ⟨⟨fn,hfn,hname,hbody⟩,hcall⟩:=hc;have hcc:=hcall (imV ro E (restr rd st.h)) w _ him (hs _ _ _ (hview hall hv))
 have hrun:(execOp a.eval o).run P w=.ok (.enter f (vs++(args.map a.eval++us)).toArray) w:=by
  obtain ⟨dst,op,ty,pos,after,guard⟩:=o;obtain ⟨l,rfl⟩:=AL h3;have hcf:(callFunc f (vs++(args.map a.eval++us)).toArray).run P w=.ok (.enter f (vs++(args.map a.eval++us)).toArray) w:=Jt hfn hname hbody;simp only [execOp,resolve,Sem.run_bind,hfv,Deferred.ofValue,Sem.run_pure,Result.andThen_ok,invoke];simpa using hcf
 unfold Oper.wp;rw [hrun,Oper.upon_enter];refine hcc.mono ?_;rintro e w' ⟨v,im',rfl,hr',hsub,hnew,hlt,hbel⟩;show K _ _;cases hsc:Aan r with
 | true =>
   have hx:Ext E E w w':=⟨fun id h=>⟨h,rfl,rfl⟩,fun b h=>h,fun b h=>.inl h,fun b h=>Nat.lt_of_lt_of_le (R.heap.lt b h) hbel.size,hbel⟩;refine hK v w' E ?_ (fun id h=>.inl h)
   have:=(R.grow hx (fun id h=>h)).put (d:=o.dst) (fun k hk=>by rw [hN]; exact h2 k hk) (AjS (w:=w') (w':=w') hsc hr')
   simp only [St.appx,List.nil_append];rw [show d=o.dst from h1];exact this
 | false =>
   rw [hsc,Bool.or_false] at hro;subst hro
   have hE:∀ b,imV true E (restr rd st.h) b→E.im b:=by
    rintro b (hb|⟨id,ob,k1,k2,k3,k4⟩)
    ·exact hb
    ·exact (H0.im id ob b k1 k2 k3).2 (k4 rfl)
   let E':CK:={ E with im:=fun b=>E.im b∨im' b }
   have hx:Ext E E' w w':=by
    refine ⟨fun id h=>⟨h,rfl,rfl⟩,fun b h=>.inl h,?_,?_,hbel⟩
    ·rintro b (h|h)
     ·exact .inl h
     ·rcases hnew b h with h|h
      ·exact .inl (hE b h)
      ·exact .inr h
    ·rintro b (h|h)
     ·exact Nat.lt_of_lt_of_le (R.heap.lt b h) hbel.size
     ·exact hlt b h
   refine hK v w' E' ?_ (fun id h=>.inl h);have hr'':Rd E' w' r v:=Dm.rd _ _ (Dm.mono (fun b h=>.inr h) (fun b h=>rfl) _ _ hr')
   have:=(R.grow hx (fun id h=>h)).put (d:=o.dst) (fun k hk=>by rw [hN]; exact h2 k hk) hr''
   simp only [St.appx,List.nil_append];rw [show d=o.dst from h1];exact this
end
def Dc:AV→Option (List AV)
 | .agg cs=>some cs
 | .any=>none
 | .tup _=>none
 | .lit v=>match v with|.agg _=>none|.tuple _=>none|_=>some [.lit v]
 | x=>some [x]
theorem IS {E:CK} {w:World} {av:AV} {cs:List AV} {v:Value} (h:Dc av=some cs) (hr:Rd E w av v):B8 E w cs v.cells.toList∧Ft v.cells.toList:=by
 have one:∀ {v:Value},v.oneCell'=true→Rd E w av v→cs=[av]→B8 E w cs v.cells.toList∧Ft v.cells.toList:=fun {v} h1 hr e=>by
  have hc:v.cells = #[v]:=by cases v<;>simp [Value.oneCell'] at h1<;>rfl
  rw [hc,e];exact ⟨⟨v,[],rfl,hr,rfl⟩,fun u hu=>by simp at hu; subst hu; exact h1⟩
 cases av with
 | any=>simp [Dc] at h
 | tup l=>simp [Dc] at h
 | agg l =>
   simp only [Dc,Option.some.injEq] at h;subst h;simp only [Rd] at hr;obtain ⟨vs,rfl,h0,h2⟩:=hr;exact ⟨by simpa [Value.cells] using h2,by simpa [Value.cells] using h0⟩
 | lit u =>
   have hv:v=u:=hr;subst hv
   cases v<;>simp only [Dc] at h<;>first
    | (cases h; done)
    | (simp only [Option.some.injEq] at h; exact one rfl hr h.symm)
 | sl sz es =>
   simp only [Dc,Option.some.injEq] at h;have hr':=hr;obtain ⟨a,cap,vs,rfl,_⟩:=hr';exact one rfl hr h.symm
 | ep sz es i off =>
   simp only [Dc,Option.some.injEq] at h;have hr':=hr;obtain ⟨b,o,vs,rfl,_⟩:=hr';exact one rfl hr h.symm
 | own id =>
   simp only [Dc,Option.some.injEq] at h;exact one hr.2.1 hr h.symm
 | optr id i off =>
   simp only [Dc,Option.some.injEq] at h;have hr':=hr;obtain ⟨_,b,_,rfl⟩:=hr';exact one rfl hr h.symm
 | fn f fi ca =>
   simp only [Dc,Option.some.injEq] at h;have hr':=hr;obtain ⟨vs,us,rfl,_⟩:=hr';exact one rfl hr h.symm
 | osl id off n =>
   simp only [Dc,Option.some.injEq] at h;have hr':=hr;obtain ⟨_,b,len,cap,_,_,rfl⟩:=hr';exact one rfl hr h.symm
 | sem s =>
   simp only [Dc,Option.some.injEq] at h;exact one (s.one _ _ _ hr) hr h.symm
theorem Ju {av:AV} {cs:List AV} {E:CK} {w:World} {v:Value} (h:Dc av=some cs) (hr:Rd E w av v):v.cells.size=cs.length:=by
 have:=(IS h hr).1.length
 simpa using this
def OM:List AV→List (Nat × Nat × AV)→Option (List AV)
 | cells,[]=>some cells
 | cells,(off,n,av)::rest=>match Dc av with
   | some cs=>bif Nat.beq cs.length n && Nat.ble (off+n) cells.length then OM (cells.take off++(cs++cells.drop (off+n))) rest else none
   | none=>none
theorem RT (off:Nat):∀ (l:List Value) (k:Nat) (cells:Array Value),off+k+l.length≤cells.size →
 ((l.zipIdx k).foldl (fun cs (p:Value × Nat)=>cs.setIfInBounds (off+p.2) p.1) cells).toList=cells.toList.take (off+k)++(l++cells.toList.drop (off+k+l.length))
 | [],k,cells,h=>by simp
 | v::l,k,cells,h=>by
   simp only [List.length_cons] at h;simp only [List.zipIdx_cons,List.foldl_cons];rw [RT off l (k+1) _ (by simp; omega)];simp only [Array.toList_setIfInBounds]
   obtain ⟨A,x,D,hA,hAl⟩:∃ A x D,cells.toList=A++x::D∧A.length=off+k :=
    ⟨cells.toList.take (off+k),cells.toList[off+k]'(by simp; omega),cells.toList.drop (off+k+1),by
     rw [← List.drop_eq_getElem_cons,List.take_append_drop],by simp; omega⟩
   rw [hA];have e1:(A++x::D).set (off+k) v=A++v::D:=by rw [← hAl]; simp
   rw [e1]
   have t1:(A++v::D).take (off+(k+1))=A++[v]:=by
    rw [show off+(k+1)=A.length+1 from by omega,List.take_length_add_append]; rfl
   have t2:(A++x::D).take (off+k)=A:=by rw [← hAl]; simp
   have d1:(A++v::D).drop (off+(k+1)+l.length)=D.drop l.length:=by
    rw [show off+(k+1)+l.length=A.length+(l.length+1) from by omega,List.drop_length_add_append]; rfl
   have d2:(A++x::D).drop (off+k+(v::l).length)=D.drop l.length:=by
    rw [List.length_cons,show off+k+(l.length+1)=A.length+(l.length+1) from by omega,List.drop_length_add_append]; rfl
   rw [t1,t2,d1,d2];simp
def AdR (E:CK) (w:World) (place:Nat→Option (Nat × Nat)):List (Nat × Value)→List (Nat × Nat × AV)→Prop
 | [],[]=>True
 | p::ps,q::qs=>(place p.1=some (q.1,q.2.1)∧Rd E w q.2.2 p.2)∧AdR E w place ps qs
 | _,_=>False
theorem ON {E:CK} {w:World} {place:Nat→Option (Nat × Nat)}:∀ {ps:List (Nat × Value)} {qs:List (Nat × Nat × AV)} {cells:Array Value} {cs cs':List AV},B8 E w cs cells.toList→Ft cells.toList →
 AdR E w place ps qs→OM cs qs=some cs' →
  ∃ out,Instr.fill place cells ps=some out∧B8 E w cs' out.toList∧Ft out.toList
 | [],[],cells,cs,cs',h,h1,_,e=>by
   simp only [OM,Option.some.injEq] at e; subst e;exact ⟨cells,rfl,h,h1⟩
 | [],_::_,_,_,_,_,_,hf,_=>hf.elim
 | _::_,[],_,_,_,_,_,hf,_=>hf.elim
 | (i,v)::ps,(off,n,av)::qs,cells,cs,cs',h,h1,hf,e=>by
   obtain ⟨hp,hf⟩:=hf;obtain ⟨hpl,hrd⟩:=hp;simp only at hpl hrd;simp only [OM] at e;cases hc:Dc av with
   | none=>simp [hc] at e
   | some vc =>
     simp only [hc] at e;cases hb:(Nat.beq vc.length n && Nat.ble (off+n) cs.length) with
     | false=>simp [hb] at e
     | true =>
       rw [hb,cond_true] at e;simp only [Bool.and_eq_true] at hb;have hn:=Nat.eq_of_beq_eq_true hb.1;have hle:=Nat.le_of_ble_eq_true hb.2;have hlen:=h.length;have hvs:=Ju hc hrd;obtain ⟨k1,k2⟩:=IS hc hrd;have hset:=RT off v.cells.toList 0 cells (by simp at hlen ⊢; omega)
       have hz:v.cells.zipIdx.foldl (fun cs (p:Value × Nat)=>cs.setIfInBounds (off+p.2) p.1) cells=(v.cells.toList.zipIdx.foldl (fun cs (p:Value × Nat)=>cs.setIfInBounds (off+p.2) p.1) cells):=by
        rw [← Array.foldl_toList]; simp
       have hlv:v.cells.toList.length=n:=by simp; omega
       rw [hlv,Nat.add_zero] at hset
       have hrd2:B8 E w (cs.take off++(vc++cs.drop (off+n))) (v.cells.zipIdx.foldl (fun cs (p:Value × Nat)=>cs.setIfInBounds (off+p.2) p.1) cells).toList:=by
        rw [hz,hset]; exact (h.take off).append (k1.append (h.drop (off+n)))
       have h12:Ft (v.cells.zipIdx.foldl (fun cs (p:Value × Nat)=>cs.setIfInBounds (off+p.2) p.1) cells).toList:=by
        rw [hz,hset];intro u hu;simp only [List.mem_append] at hu;rcases hu with hu|hu|hu
        ·exact h1 u (List.mem_of_mem_take hu)
        ·exact k2 u hu
        ·exact h1 u (List.mem_of_mem_drop hu)
       obtain ⟨out,o1,o2,o3⟩:=ON hrd2 h12 hf e;refine ⟨out,?_,o2,o3⟩;simp only [Instr.fill,hpl];rw [if_neg (by simp at hlen ⊢; omega)];exact o1
def BY (E:CK) (id:Nat) (V:Value) (sz:Nat):CK:=⟨E.im,fun k=>E.live k∨k=id,fun k=>bif Nat.beq k id then V else E.val k,fun k=>bif Nat.beq k id then sz else E.sz k⟩
theorem LO {E:CK} {id:Nat} {V:Value} {sz:Nat} (hid:¬ E.live id):∀ k,E.live k→(BY E id V sz).live k∧(BY E id V sz).val k=E.val k∧(BY E id V sz).sz k=E.sz k:=fun k hk=>by
 have:k≠id:=fun e=>hid (e ▸ hk)
 exact ⟨.inl hk,by simp [BY,Ej this],by simp [BY,Ej this]⟩
def Ya:Option Nat→Hp
 | some k=>[(k,none)]
 | none=>[]
theorem Ni {old:Option Nat} {h:Hp} {k:Nat} {o:OB} (e:hl (Ya old++h) k=some o):old≠some k∧hl h k=some o:=by
 cases old with
 | none=>exact ⟨by simp,e⟩
 | some j =>
   by_cases hj:j=k
   ·subst hj
    simp [Ya,hl,look] at e
   ·refine ⟨by simpa using hj,?_⟩
    simpa [Ya,hl,look,Ej hj] using e
theorem B2 {id k:Nat} {x:Option OB} {h:Hp} {o:OB} (e:hl ((id,x)::h) k=some o):(k=id∧x=some o)∨(k≠id∧hl h k=some o):=by
 by_cases hk:id=k
 ·subst hk
  simp only [hl,look,Nat.beq_refl,cond_true] at e;left;cases x with
  | none=>simp at e
  | some y=>simp only [Option.some.injEq] at e; exact ⟨rfl,by rw [e]⟩
 ·right
  exact ⟨fun e=>hk e.symm,by simpa [hl,look,Ej hk] using e⟩
theorem EP.new {C:EH} {E:CK} {st:St} {a:Act} {w w':World} (R:EP C E st a w) {id:Nat} (hid:¬ E.live id) (hnx:id<st.nx) (old:Option Nat) (row:Option Nat) (hg:w.grownBy w' row)
 (hrow:∀ b,row=some b→∃ k o,old=some k∧E.live k∧hl st.h k=some o∧Bz (E.val k)=some b∧o.ro=false) {ob:OB} {V:Value} (hob:G6 (BY E id V ob.sz) w' id ob) (hro:ob.ro=false)
 (hV:∀ b,Bz V=some b→w.heap.size≤b∨row=some b):EP C (BY E id V ob.sz) ⟨st.t,(id,some ob)::(Ya old++st.h),st.nx⟩ a w':=by
 have hl0:=LO (V:=V) (sz:=ob.sz) hid
 have hlive:∀ k,(BY E id V ob.sz).live k→k≠id→E.live k:=fun k h hk=>by
  rcases h with h|h
  ·exact h
  ·exact absurd h hk
 have hrowim:∀ b,row=some b→¬ E.im b:=fun b hb him=>by
  obtain ⟨k,o,_,h2,h3,h4,h5⟩:=hrow b hb
  have:=(R.heap.im k o b h2 h3 h4).1 him
  rw [h5] at this; cases this
 have hw:∀ b,E.im b→w'.heap[b]? = w.heap[b]? := fun b hb=>hg.block b (R.heap.lt b hb) (fun e=>hrowim b e.symm hb);have hval:(BY E id V ob.sz).val id=V:=by simp [BY]
 have hkeep:∀ k o b,E.live k→hl st.h k=some o→old≠some k→Bz (E.val k)=some b→row≠some b:=fun k o b h1 h2 h3 h4 h5=>by
  obtain ⟨k',o',e1,e2,e3,e4,_⟩:=hrow b h5
  have:=R.heap.apart k k' o o' b h1 e2 h2 e3 h4 e4
  rw [this] at h3; exact h3 e1
 refine ⟨R.defers,R.size,fun n=>Rd.mono hl0 (fun b h=>h) hw _ _ (R.tm n),⟨?_,?_,?_,?_⟩,?_,?_,?_,R.imx,R.imn,?_⟩
 ·intro k o hk ho
  rcases B2 ho with ⟨rfl,e⟩|⟨hne,ho⟩
  ·simp only [Option.some.injEq] at e; subst e; exact hob
  ·obtain ⟨h1,h2⟩:=Ni ho
   have hkl:=hlive k hk hne;refine (R.heap.ob k o hkl h2).mono (hl0 k hkl).2 hl0 (fun b h=>h) hw (fun b hb=>hg.block b (R.heap.blk_lt hkl h2 hb) (fun e=>hkeep k o b hkl h2 h1 hb e.symm))
 ·intro k k' o o' b hk hk' ho ho' hb hb'
  rcases B2 ho with ⟨e1,e⟩|⟨hne,p1⟩<;>rcases B2 ho' with ⟨e2,e'⟩|⟨hne',p2⟩
  ·rw [e1,e2]
  ·exfalso
   subst e1;rw [hval] at hb;obtain ⟨h1,h2⟩:=Ni p2;have hkl:=hlive k' hk' hne';rw [(hl0 k' hkl).2.1] at hb';rcases hV b hb with h|h
   ·have:=R.heap.blk_lt hkl h2 hb'; omega
   ·exact hkeep k' o' b hkl h2 h1 hb' h
  ·exfalso
   subst e2;rw [hval] at hb';obtain ⟨h1,h2⟩:=Ni p1;have hkl:=hlive k hk hne;rw [(hl0 k hkl).2.1] at hb;rcases hV b hb' with h|h
   ·have:=R.heap.blk_lt hkl h2 hb; omega
   ·exact hkeep k o b hkl h2 h1 hb h
  ·obtain ⟨h1,h2⟩:=Ni p1
   obtain ⟨h1',h2'⟩:=Ni p2;have hkl:=hlive k hk hne;have hkl':=hlive k' hk' hne';rw [(hl0 k hkl).2.1] at hb;rw [(hl0 k' hkl').2.1] at hb';exact R.heap.apart k k' o o' b hkl hkl' h2 h2' hb hb'
 ·intro k o b hk ho hb
  rcases B2 ho with ⟨rfl,e⟩|⟨hne,ho⟩
  ·simp only [Option.some.injEq] at e; subst e
   rw [hval] at hb;rw [hro];constructor
   ·intro him
    have him':E.im b:=him;rcases hV b hb with h|h
    ·have:=R.heap.lt b him'; omega
    ·exact absurd him' (hrowim b h)
   ·intro h; cases h
  ·obtain ⟨h1,h2⟩:=Ni ho
   have hkl:=hlive k hk hne;rw [(hl0 k hkl).2.1] at hb;exact R.heap.im k o b hkl h2 hb
 ·exact fun b hb=>Nat.lt_of_lt_of_le (R.heap.lt b hb) hg.size
 ·intro k hk
  rcases hk with h|h
  ·exact R.nx k h
  ·rw [h]; exact hnx
 ·intro k o b hk ho hb
  rcases B2 ho with ⟨rfl,e⟩|⟨hne,ho⟩
  ·rw [hval] at hb
   rcases hV b hb with h|h
   ·have:=R.frm.size; exact .inl (by omega)
   ·obtain ⟨k',o',e1,e2,e3,e4,_⟩:=hrow b h
    exact R.own k' o' b e2 e3 e4
  ·obtain ⟨h1,h2⟩:=Ni ho
   have hkl:=hlive k hk hne;rw [(hl0 k hkl).2.1] at hb;exact R.own k o b hkl h2 hb
 ·intro k hk
  obtain ⟨k1,k2,k3⟩:=R.ext k hk;obtain ⟨j1,j2,j3⟩:=hl0 k k1;exact ⟨j1,by rw [j2]; exact k2,by rw [j3]; exact k3⟩
 ·refine ⟨hg.os.trans R.frm.os,hg.tape.trans R.frm.tape,hg.output.trans R.frm.output,Nat.le_trans R.frm.size hg.size,fun k hk hX => ?_⟩
  refine (hg.block k (Nat.lt_of_lt_of_le hk R.frm.size) (fun e => ?_)).trans (R.frm.block k hk hX);obtain ⟨k',o',e1,e2,e3,e4,_⟩:=hrow k e.symm;rcases R.own k' o' k e2 e3 e4 with h|h
  ·omega
  ·exact hX h
theorem OO {P:Program} {st:St} {i:AG} {ob:OB} (rd:List Nat) (hg:BD st i.g)
 (h:∀ (o:Oper) (C:EH) (E:CK) (a:Act) (w:World) (sx:St),Br P o.op=some i.op→EP C E sx a w→(∀ x ∈ i.op.opds,Rd E w (ev st x) (a.eval x))→(∀ id ∈ rd,hl sx.h id=hl st.h id)→¬ E.live st.nx →
  ∃ V w',(execOp a.eval o).run P w=.ok (.value V) w'∧w.grownBy w' none∧G6 (BY E st.nx V ob.sz) w' st.nx ob∧(∀ b,Bz V=some b→w.heap.size≤b)∧V.oneCell'=true∧(ob.row=false→∃ b,V=.pointer (some ⟨b,0,none⟩))) (hro:ob.ro=false) :
 BS P st ⟨i,bif ob.row then .own st.nx else .optr st.nx 0 0,rd,[(st.nx,some ob)],1⟩:=by
 intro N ops o hlow C E a w sx hN R hag hh hnw K Q hK;rw [if_pos (C2 hlow R hag hg)];obtain ⟨h1,h2,h3,h4⟩:=Bp hlow;obtain ⟨hnl,hnx⟩:=hnw 0 (Nat.lt_succ_self 0);obtain ⟨V,w',hu,hgr,hob,hV,h1c,hbox⟩:=h o C E a w sx h3 R (fun x hx=>Cv R hag hx) (fun id hid=>hh id (.inl hid)) hnl;unfold Oper.wp;rw [hu,Oper.upon_value];have hR:=EP.new R hnl hnx none none hgr (fun b hb=>by cases hb) hob hro (fun b hb=>.inl (hV b hb));refine hK V w' (BY E st.nx V ob.sz) ?_ (fun id hid=>hid.elim (fun h=>.inl h) (fun h=>.inr ⟨0,Nat.lt_succ_self 0,h⟩))
 have hrd:Rd (BY E st.nx V ob.sz) w' (bif ob.row then .own st.nx else .optr st.nx 0 0) V:=by
  cases hrow:ob.row with
  | true=>exact ⟨.inr rfl,h1c,by simp [BY]⟩
  | false =>
    obtain ⟨b,rfl⟩:=hbox hrow;exact ⟨.inr rfl,b,by simp [BY,Tz],by simp⟩
 have:=hR.put (d:=o.dst) (fun k hk=>by rw [hN]; exact h2 k hk) hrd
 simp only [St.appx];rw [h1];exact this
theorem ER {P:Program} {t:TypeId} {z:List Value} {sz by_:Nat} (h:Ei P t=some (z,sz,by_)):∃ i zv,P.info? t=some i∧i.zero=some zv∧z=zv.cells.toList∧i.size=sz∧i.bytes=by_∧z.length=sz∧Ft z∧0<sz∧0<by_:=by
 simp only [Ei] at h;split at h
 ·rename_i i hi
  split at h
  ·rename_i zv hz
   split at h
   ·rename_i hc
    simp only [Bool.and_eq_true] at hc;simp only [Option.some.injEq,Prod.mk.injEq] at h;obtain ⟨rfl,rfl,rfl⟩:=h;refine ⟨i,zv,hi,hz,rfl,rfl,rfl,?_,?_,by simpa [Nat.blt_eq] using hc.1.2,by simpa [Nat.blt_eq] using hc.2⟩
    ·have:=Nat.eq_of_beq_eq_true hc.1.1.1; simpa using this
    ·intro u hu
     have:=hc.1.1.2
     rw [Array.all_eq_true_iff_forall_mem] at this;exact this u (by simpa using hu)
   ·cases h
  ·cases h
 ·cases h
theorem AgX {E:CK} {w:World} {id:Nat} {e:TypeId} {vs:List Value} {cs:List AV} (hn:0<vs.length) (h1:Ft vs) (hr:B8 (BY E id (.pointer (some ⟨w.heap.size,0,none⟩)) vs.length) (w.alloc (.cells vs.toArray e)) cs vs) :
 G6 (BY E id (.pointer (some ⟨w.heap.size,0,none⟩)) vs.length) (w.alloc (.cells vs.toArray e)) id ⟨false,false,e,vs.length,[cs]⟩ :=
  ⟨by simp [BY],.inl ⟨hn,w.heap.size,vs,cs,by simp [BY],heap_alloc_new w _,rfl,rfl,hr,h1⟩⟩
section
variable {P:Program} {st:St} {d:Option Nat} {g:Option (Nat × Bool)}
theorem AjU {e:TypeId} {z:List Value} (hg:BD st g):BS P st ⟨⟨d,g,.alloc e z⟩,.optr st.nx 0 0,[],[(st.nx,some ⟨false,false,e,z.length,[z.map .lit]⟩)],1⟩ :=
 OO (ob:=⟨false,false,e,z.length,[z.map .lit]⟩) [] hg (fun o C E ac w sx hlow R hr hh hnl=>by
  obtain ⟨dst,o,ty,pos,after,guard⟩:=o;obtain ⟨rfl,sz,by_,hz⟩:=AL hlow;obtain ⟨i,zv,k1,k2,k3,k4,k5,k6,k7,k8,_⟩:=ER hz;refine ⟨.pointer (some ⟨w.heap.size,0,none⟩),w.alloc (.cells z.toArray e),?_,World.grownBy_alloc w _ none,AgX (by omega) k7 (OG z),fun b hb=>by simp [Bz] at hb; omega,rfl,fun _=>⟨_,rfl⟩⟩;have hzv:zv.cells=z.toArray:=by rw [k3]
  simp [execOp,Instr.alloc,zeroValue,typeInfo,k1,k2,newVar,newRow,hzv]) rfl
theorem AmS {e:TypeId} {n:Nat} {x:Operand} {av:AV} {cs:List AV} (hg:BD st g) (hx:ev st x=av) (hc:Dc av=some cs) (hn:cs.length=n):BS P st ⟨⟨d,g,.box e n x⟩,.optr st.nx 0 0,[],[(st.nx,some ⟨false,false,e,n,[cs]⟩)],1⟩ :=
 OO (ob:=⟨false,false,e,n,[cs]⟩) [] hg (fun o C E ac w sx hlow R hr hh hnl=>by
  have h1:=hr x (by simp [Ci.opds]);rw [hx] at h1;obtain ⟨dst,o,ty,pos,after,guard⟩:=o;obtain ⟨rfl,gg,hs,hpos⟩:=AL hlow;obtain ⟨c1,c2⟩:=IS hc h1;have hlen:(ac.eval x).cells.toList.length=n:=by have:=Ju hc h1; simp; omega
  have hgrow:=World.grownBy_alloc w (.cells (ac.eval x).cells e) none;refine ⟨.pointer (some ⟨w.heap.size,0,none⟩),w.alloc (.cells (ac.eval x).cells e),?_,hgrow,?_,fun b hb=>by simp [Bz] at hb; omega,rfl,fun _=>⟨_,rfl⟩⟩
  ·simp [execOp,Instr.box,newVar,newRow]
  ·have hb:=AgX (E:=E) (w:=w) (id:=st.nx) (e:=e) (vs:=(ac.eval x).cells.toList) (cs:=cs) (by omega) c2 (B8.mono (LO hnl) (fun b h=>h) (fun b hb=>hgrow.block b (R.heap.lt b hb) (by simp)) _ _ (by simpa using c1))
   simp only [hlen,Array.toArray_toList] at hb;exact hb) rfl
theorem WZ {P:Program} {w:World}:∀ (fs:List Field),(∀ f ∈ fs,(P.info? f.type).isSome=true)→(fs.mapM fun (f:Field)=>(do pure (f.offset,← sizeOf f.type):Sem (Nat × Nat))).run P w=.ok (fs.map fun f=>(f.offset,P.cellsOf f.type)) w
 | [],_=>rfl
 | f::fs,h=>by
   obtain ⟨i,hi⟩:=Option.isSome_iff_exists.1 (h f (by simp))
   have h1:(do pure (f.offset,← sizeOf f.type):Sem (Nat × Nat)).run P w=.ok (f.offset,P.cellsOf f.type) w:=by
    simp [sizeOf,typeInfo,hi,Program.cellsOf]
   rw [List.mapM_cons,Sem.run_bind,h1,Result.andThen_ok,Sem.run_bind,WZ fs (fun f hf=>h f (by simp [hf]))];simp only [Result.andThen_ok,Sem.run_pure,List.map_cons]
theorem TM {E:CK} {w:World} {ac:Act} {t:TypeId} {place:Nat→Option (Nat × Nat)} (hp:∀ n q,En P t n=some q→place n=some q):∀ {l:List (Nat × Operand)} {ps:List (Nat × Nat × Operand)},AR (fun p:Nat × Operand=>(En P t p.1).map fun q=>(q.1,q.2,p.2)) l=some ps →
 (∀ p ∈ ps,Rd E w (ev st p.2.2) (ac.eval p.2.2))→AdR E w place (l.map fun p=>(p.1,ac.eval p.2)) (ps.map fun p=>(p.1,p.2.1,ev st p.2.2))
 | [],ps,h,_=>by simp only [AR,Option.some.injEq] at h; subst h; trivial
 | p::l,ps,h,hr=>by
   simp only [AR] at h;cases hq:En P t p.1 with
   | none=>simp [hq] at h
   | some q =>
     cases hl:AR (fun p:Nat × Operand=>(En P t p.1).map fun q=>(q.1,q.2,p.2)) l with
     | none=>simp [hl] at h
     | some ps' =>
       simp only [hq,Option.map_some,hl,Option.some.injEq] at h;subst h;exact ⟨⟨hp _ _ hq,hr (q.1,q.2,p.2) (by simp)⟩,TM hp hl (fun p hp'=>hr p (by simp [hp']))⟩
theorem AjV {z:List Value} {ps:List (Nat × Nat × Operand)} {cs:List AV} (hg:BD st g) (hf:OM (z.map .lit) (ps.map fun p=>(p.1,p.2.1,ev st p.2.2))=some cs):BS P st ⟨⟨d,g,.build z ps⟩,.agg cs,[],[],0⟩ :=
 Bc [] hg fun o C E ac w sx hlow R hr hh=>by
  obtain ⟨dst,o,ty,pos,after,guard⟩:=o;obtain ⟨t,l,sz,by_,rfl,hz,hl,hfo⟩:=AL hlow;obtain ⟨i,zv,k1,k2,k3,k4,k5,k6,k7,_⟩:=ER hz;have hzv:zv.cells=z.toArray:=by rw [k3]
  have hzr:(zeroValue t).run P w=.ok zv w:=by simp [zeroValue,typeInfo,k1,k2]
  have hrr:∀ p ∈ ps,Rd E w (ev st p.2.2) (ac.eval p.2.2):=fun p hp=>hr p.2.2 (by simp [Ci.opds]; exact ⟨p.1,p.2.1,hp⟩);have hrd0:B8 E w (z.map .lit) zv.cells.toList:=by rw [hzv]; exact OG z
  have h10:Ft zv.cells.toList:=by rw [hzv]; exact k7
  have hpl:(l.map fun (p:Nat × Operand)=>(p.1,ac.eval p.2)).toList=l.toList.map fun p=>(p.1,ac.eval p.2):=by simp
  unfold Tv at hfo;split at hfo
  ·rename_i fs hu
   simp only [List.all_eq_true] at hfo
   have hpla:∀ n q,En P t n=some q→(fs.map fun f=>(f.offset,P.cellsOf f.type))[n]? = some q:=fun n q hq=>by
    simp only [En,hu] at hq;split at hq
    ·rename_i f hf
     simp only [Option.map_eq_some_iff] at hq;obtain ⟨j,hj,rfl⟩:=hq;simp [hf,Program.cellsOf,hj]
    ·cases hq
   obtain ⟨out,o1,o2,o3⟩:=ON (place:=fun n=>(fs.map fun f=>(f.offset,P.cellsOf f.type))[n]?) hrd0 h10 (TM (P:=P) (st:=st) hpla hl hrr) hf;refine ⟨.agg out,?_,out.toList,by simp,o3,o2⟩
   have hpm:(fs.mapM fun (f:Field)=>(do pure (f.offset,← sizeOf f.type):Sem (Nat × Nat))).run P w=.ok (fs.map fun f=>(f.offset,P.cellsOf f.type)) w:=by
    rw [Array.mapM_eq_mapM_toList,map_eq_pure_bind,Sem.run_bind,WZ fs.toList hfo];simp only [Result.andThen_ok,Sem.run_pure,← Array.toList_map,Array.toArray_toList]
   simp only [execOp,Instr.build,Sem.run_bind,hzr,Result.andThen_ok,run_underlying hu w,hpm,hpl,o1,Sem.run_pure]
  ·rename_i len e hu
   obtain ⟨j,hj⟩:=Option.isSome_iff_exists.1 hfo
   have hpla:∀ n q,En P t n=some q→some (n * j.size,j.size)=some q:=fun n q hq=>by
    simpa [En,hu,hj] using hq
   obtain ⟨out,o1,o2,o3⟩:=ON (place:=fun n=>some (n * j.size,j.size)) hrd0 h10 (TM (P:=P) (st:=st) hpla hl hrr) hf;refine ⟨.agg out,?_,out.toList,by simp,o3,o2⟩;have hsz:(sizeOf e).run P w=.ok j.size w:=by simp [sizeOf,typeInfo,hj]
   simp only [execOp,Instr.build,Sem.run_bind,hzr,Result.andThen_ok,run_underlying hu w,hsz,hpl,o1,Sem.run_pure]
  ·cases hfo
end
def Ep (sz:Nat):Nat→List AV→List (List AV)
 | 0,_=>[]
 | n+1,cs=>cs.take sz::Ep sz n (cs.drop sz)
theorem Be.take {im:Nat→Prop} {w:World}:∀ (n:Nat) {l:List AV} {vs:List Value},Be im w l vs→Be im w (l.take n) (vs.take n)
 | 0,l,vs,h=>by simp [Be]
 | n+1,[],vs,h=>by simp only [Be] at h; subst h; simp [Be]
 | n+1,a::l,vs,h=>by
   simp only [Be] at h;obtain ⟨v,rest,rfl,h2,h3⟩:=h;simp only [List.take_succ_cons,Be];exact ⟨v,rest.take n,rfl,h2,Be.take n h3⟩
theorem Be.drop {im:Nat→Prop} {w:World}:∀ (n:Nat) {l:List AV} {vs:List Value},Be im w l vs→Be im w (l.drop n) (vs.drop n)
 | 0,l,vs,h=>by simpa using h
 | n+1,[],vs,h=>by simp only [Be] at h; subst h; simp [Be]
 | n+1,a::l,vs,h=>by
   simp only [Be] at h;obtain ⟨v,rest,rfl,_,h3⟩:=h;simpa using Be.drop n h3
theorem Be.append {im:Nat→Prop} {w:World}:∀ {l:List AV} {vs:List Value} {l':List AV} {vs':List Value},Be im w l vs→Be im w l' vs'→Be im w (l++l') (vs++vs')
 | [],vs,l',vs',h,h'=>by simp only [Be] at h; subst h; simpa using h'
 | a::l,vs,l',vs',h,h'=>by
   simp only [Be] at h;obtain ⟨v,rest,rfl,h2,h3⟩:=h;simp only [List.cons_append,Be];exact ⟨v,rest++vs',rfl,h2,h3.append h'⟩
theorem AZ.append {im:Nat→Prop} {w:World} {sz:Nat}:∀ {l:List (List AV)} {vs:List Value} {l':List (List AV)} {vs':List Value},AZ im w sz l vs→AZ im w sz l' vs'→AZ im w sz (l++l') (vs++vs')
 | [],vs,l',vs',h,h'=>by simp only [AZ] at h; subst h; simpa using h'
 | a::l,vs,l',vs',h,h'=>by
   simp only [AZ] at h;obtain ⟨v,rest,rfl,h1,h2,h3⟩:=h;simp only [List.cons_append,AZ];exact ⟨v,rest++vs',by rw [List.append_assoc],h1,h2,h3.append h'⟩
theorem AZ.length {im:Nat→Prop} {w:World} {sz:Nat}:∀ {es:List (List AV)} {vs:List Value},AZ im w sz es vs→vs.length=es.length * sz
 | [],vs,h=>by simp only [AZ] at h; simp [h]
 | e::es,vs,h=>by
   simp only [AZ] at h;obtain ⟨x,rest,rfl,h1,_,h3⟩:=h;rw [List.length_append,h1,AZ.length h3,List.length_cons,Nat.add_mul,Nat.one_mul,Nat.add_comm]
theorem Aaq {im:Nat→Prop} {w:World} {sz:Nat}:∀ (n:Nat) {cs:List AV} {vs:List Value},Be im w cs vs→vs.length=n * sz→AZ im w sz (Ep sz n cs) vs
 | 0,cs,vs,h,hl=>by
   have:vs=[]:=List.eq_nil_of_length_eq_zero (by simpa using hl)
   subst this; rfl
 | n+1,cs,vs,h,hl=>by
   have hge:sz≤vs.length:=by rw [hl,Nat.add_mul,Nat.one_mul]; omega
   refine ⟨vs.take sz,vs.drop sz,(List.take_append_drop _ _).symm,by simp; omega,h.take sz,Aaq n (h.drop sz) ?_⟩;rw [List.length_drop,hl,Nat.add_mul,Nat.one_mul]; omega
theorem Ds (sz:Nat):∀ (n:Nat) (cs:List AV),(Ep sz n cs).length=n
 | 0,_=>rfl
 | n+1,cs=>by simp [Ep,Ds sz n]
theorem AZ.set {im:Nat→Prop} {w:World} {sz:Nat}:∀ {es:List (List AV)} {vs:List Value} {i:Nat} {e':List AV} {x':List Value},AZ im w sz es vs→i<es.length→Be im w e' x'→x'.length=sz →
 AZ im w sz (es.set i e') (vs.take (i * sz)++(x'++vs.drop (i * sz+sz)))
 | [],vs,i,e',x',h,hi,_,_=>by simp at hi
 | e::es,vs,0,e',x',h,hi,he,hx=>by
   simp only [AZ] at h;obtain ⟨x,rest,rfl,h1,h2,h3⟩:=h;simp only [List.set_cons_zero,AZ];refine ⟨x',rest,?_,hx,he,h3⟩;rw [Nat.zero_mul,List.take_zero,List.nil_append,Nat.zero_add,← h1,List.drop_left]
 | e::es,vs,i+1,e',x',h,hi,he,hx=>by
   simp only [AZ] at h;obtain ⟨x,rest,rfl,h1,h2,h3⟩:=h;simp only [List.set_cons_succ,AZ];refine ⟨x,rest.take (i * sz)++(x'++rest.drop (i * sz+sz)),?_,h1,h2,AZ.set h3 (by simpa using hi) he hx⟩;have e1:(i+1) * sz=x.length+i * sz:=by rw [Nat.add_mul,Nat.one_mul,h1,Nat.add_comm]
   rw [e1,List.take_length_add_append,Nat.add_assoc,List.drop_length_add_append,List.append_assoc]
theorem Aar {E:CK} {w:World} {cs cs':List AV} {vs:List Value} (h:Ij (fun _=>none) cs=some cs') (hr:B8 E w cs vs):Be E.im w cs' vs :=
 Jr (fun b h=>h) (fun x y v _ e=>by cases e) cs vs cs' hr h
theorem EP.upd {C:EH} {E:CK} {st:St} {a:Act} {w w':World} (R:EP C E st a w) {id b:Nat} {o0 ob:OB} (hl1:E.live id) (ho:hl st.h id=some o0) (hro:o0.ro=false) (hb:Bz (E.val id)=some b) (hg:w.grownBy w' (some b))
 (hob:G6 E w' id ob) (hro':ob.ro=false):EP C E ⟨st.t,(id,some ob)::st.h,st.nx⟩ a w':=by
 have hnim:¬ E.im b:=fun h=>by have:=(R.heap.im id o0 b hl1 ho hb).1 h; rw [hro] at this; cases this
 have hw:∀ k,E.im k→w'.heap[k]? = w.heap[k]? := fun k hk=>hg.block k (R.heap.lt k hk) (fun e=>by simp at e; subst e; exact hnim hk);refine ⟨R.defers,R.size,fun n=>Rd.mono (fun k h=>⟨h,rfl,rfl⟩) (fun k h=>h) hw _ _ (R.tm n),⟨?_,?_,?_,fun k hk=>Nat.lt_of_lt_of_le (R.heap.lt k hk) hg.size⟩,R.nx,?_,R.ext,R.imx,R.imn,?_⟩
 ·intro k o hk hh
  rcases B2 hh with ⟨rfl,e⟩|⟨hne,p1⟩
  ·simp only [Option.some.injEq] at e; subst e; exact hob
  ·exact (R.heap.ob k o hk p1).mono ⟨rfl,rfl⟩ (fun k h=>⟨h,rfl,rfl⟩) (fun k h=>h) hw (fun b' hb'=>hg.block b' (R.heap.blk_lt hk p1 hb') (fun e=>by
    simp at e; subst e;exact hne (R.heap.apart k id o o0 b' hk hl1 p1 ho hb' hb)))
 ·intro k k' o o' b' hk hk' hh hh' hb1 hb2
  have e:∀ j oj,hl ((id,some ob)::st.h) j=some oj→∃ oj',hl st.h j=some oj':=fun j oj hj=>by
   rcases B2 hj with ⟨rfl,_⟩|⟨_,p⟩
   ·exact ⟨o0,ho⟩
   ·exact ⟨oj,p⟩
  obtain ⟨q1,e1⟩:=e k o hh;obtain ⟨q2,e2⟩:=e k' o' hh';exact R.heap.apart k k' q1 q2 b' hk hk' e1 e2 hb1 hb2
 ·intro k o b' hk hh hb'
  rcases B2 hh with ⟨rfl,e⟩|⟨hne,p1⟩
  ·simp only [Option.some.injEq] at e; subst e
   rw [hro',← hro]; exact R.heap.im k o0 b' hk ho hb'
  ·exact R.heap.im k o b' hk p1 hb'
 ·intro k o b' hk hh hb'
  rcases B2 hh with ⟨rfl,e⟩|⟨hne,p1⟩
  ·exact R.own k o0 b' hk ho hb'
  ·exact R.own k o b' hk p1 hb'
 ·refine ⟨hg.os.trans R.frm.os,hg.tape.trans R.frm.tape,hg.output.trans R.frm.output,Nat.le_trans R.frm.size hg.size,fun k hk hX => ?_⟩
  refine (hg.block k (Nat.lt_of_lt_of_le hk R.frm.size) (fun e => ?_)).trans (R.frm.block k hk hX);simp at e; subst e;rcases R.own id o0 k hl1 ho hb with h|h
  ·omega
  ·exact hX h
theorem E4 {w:World} {g:Nat} {cs:Array Value}:w.grownBy (w.setRow g cs) (some g) :=
 ⟨rfl,rfl,rfl,by simp [World.setRow],fun k hk hne=>by
  simp only [World.setRow,Array.getElem?_modify];rw [if_neg (fun e=>hne (by rw [e]))]⟩
theorem Aas {α:Type} (L X:List α) (I off n sz M:Nat) (hM:I+sz≤M) (hML:M≤L.length) (hX:X.length=n) (ho:off+n≤sz) :
 (L.take (I+off)++(X++L.drop (I+off+n))).take M=(L.take M).take I++(((((L.take M).drop I).take sz).take off++(X++(((L.take M).drop I).take sz).drop (off+n)))++(L.take M).drop (I+sz)):=by
 apply List.ext_getElem?;intro q;simp only [List.getElem?_append,List.getElem?_take,List.getElem?_drop,List.length_take,List.length_drop,List.length_append,hX];have e1:min (I+off) L.length=I+off:=by omega
 have e2:min I (min M L.length)=I:=by omega
 have e4:min sz (min M L.length - I)=sz:=by omega
 have e5:min off sz=off:=by omega
 simp only [e1,e2,e4,e5];by_cases h1:q<I
 ·have:q<I+off:=by omega
  have h2:q<M:=by omega
  simp [h1,this,h2]
 ·by_cases h2:q<I+off
  ·have a1:q<M:=by omega
   have a2:q - I<off+(n+(sz - (off+n))):=by omega
   have a3:q - I<off:=by omega
   have a4:q - I<sz:=by omega
   have a5:I+(q - I)=q:=by omega
   simp [h1,h2,a1,a2,a3,a4,a5]
  ·by_cases h3:q<I+off+n
   ·have a1:q<M:=by omega
    have a2:q - I<off+(n+(sz - (off+n))):=by omega
    have a3:¬ q - I<off:=by omega
    have a5:q - I - off<n:=by omega
    have a6:q - (I+off)=q - I - off:=by omega
    simp [h1,h2,a1,a2,a3,a5,a6]
   ·by_cases h4:q<I+sz
    ·have a1:q<M:=by omega
     have a2:q - I<off+(n+(sz - (off+n))):=by omega
     have a3:¬ q - I<off:=by omega
     have a4:¬ q - (I+off)<n:=by omega
     have a5:¬ q - I - off<n:=by omega
     have a6:off+n+(q - I - off - n)<sz:=by omega
     have a7:I+(off+n+(q - I - off - n))=q:=by omega
     have a8:I+off+n+(q - (I+off) - n)=q:=by omega
     simp [h1,h2,a1,a2,a3,a4,a5,a6,a7,a8]
    ·have a2:¬ q - I<off+(n+(sz - (off+n))):=by omega
     have a3:¬ q - (I+off)<n:=by omega
     have a4:I+off+n+(q - (I+off) - n)=q:=by omega
     have a5:I+sz+(q - I - (off+(n+(sz - (off+n)))))=q:=by omega
     simp [h1,h2,a2,a3,a4,a5]
section
variable {P:Program} {st:St} {d:Option Nat} {g:Option (Nat × Bool)}
theorem RU {w:World} {t:TypeId} {gg:Bool} {n b o:Nat} {v:Value} {cur:Array Value} {e:TypeId} (hs:EG P t=some (gg,n)) (hv:v.cells.size=n) (h1:Ft v.cells.toList) (hb:w.heap[b]? = some (.cells cur e (0,0))) (hle:o+n≤cur.size) :
 (Instr.storeAt t (.pointer (some ⟨b,o,none⟩)) v).run P w=.ok () (w.setRow b (cur.toList.take o++v.cells.toList++cur.toList.drop (o+n)).toArray):=by
 obtain ⟨dd,i,k1,k2,k3,_⟩:=D9 hs;have hsz:(sizeOf t).run P w=.ok n w:=by simp [sizeOf,typeInfo,k2,k3]
 have hst:=run_storeCells_at P b o e v.cells.toList 0 cur w hb (by simp; omega) h1;have hlen:v.cells.toList.length=n:=by simpa using hv
 rw [Nat.add_zero,hlen] at hst;have hn:¬ v.cells.size≠n:=by omega
 simp only [Instr.storeAt,Instr.sureAddr,Sem.run_bind,Sem.run_pure,Result.andThen_ok,storeVar,hsz,if_neg hn];exact hst
theorem AgY {n id off:Nat} {p x:Operand} {ob:OB} {av:AV} {e cs:List AV} (hg:BD st g) (hp:ev st p=.optr id 0 off) (ho:hl st.h id=some ob) (hrow:ob.row=false) (hro:ob.ro=false) (he:ob.es=[e]) (hx:ev st x=av) (hc:Dc av=some cs) (hn:cs.length=n) (hle:Nat.ble (off+n) e.length=true) :
 BS P st ⟨⟨d,g,.store n p x⟩,.any,[],[(id,some { ob with es:=[e.take off++(cs++e.drop (off+n))] })],0⟩:=by
 intro N ops o hlow C E a w sx hN R hag hh hnw K Q hK;rw [if_pos (C2 hlow R hag hg)];obtain ⟨h1,h2,h3,h4⟩:=Bp hlow;have hpv:=Cv R hag (x:=p) (by simp [Ci.opds]);have hxv:=Cv R hag (x:=x) (by simp [Ci.opds]);rw [hp] at hpv; rw [hx] at hxv;obtain ⟨hl1,b,hbp,hpv⟩:=hpv;have hb:=Oz hbp;have ho':hl sx.h id=some ob:=by rw [hh id (.inr (by simp))]; exact ho
 obtain ⟨k1,k2⟩:=R.heap.ob id ob hl1 ho';have k2':=k2;rw [hrow] at k2;have hzp:=M1.pos k2 hbp;obtain ⟨g',vs,cs0,j1,j2,j3,j4,j5,j6⟩:=M1.box k2 hbp;rw [he] at j3;obtain rfl:e=cs0:=by simpa using j3
 have hbg:Bz (E.val id)=some g':=by rw [j1]; rfl
 rw [hb] at hbg;obtain rfl:=Option.some.inj hbg;obtain ⟨c1,c2⟩:=IS hc hxv;have hvs:=Ju hc hxv;have hlen:=j5.length;have hle':=Nat.le_of_ble_eq_true hle;rw [Nat.zero_mul,Nat.zero_add] at hpv;obtain ⟨dst,op,ty,pos,after,guard⟩:=o;obtain ⟨t,gg,rfl,hs⟩:=AL h3;have hrun:=RU (P:=P) (w:=w) (v:=a.eval x) (o:=off) hs (by omega) c2 j2 (by simp; omega);unfold Oper.wp
 have hex:(execOp a.eval ⟨dst,.store t p x,ty,pos,after,guard⟩).run P w=.ok .skip (w.setRow b (vs.toArray.toList.take off++(a.eval x).cells.toList++vs.toArray.toList.drop (off+n)).toArray):=by
  simp only [execOp,hpv,Sem.run_bind,hrun,Result.andThen_ok,Sem.run_pure]
 rw [hex,Oper.upon_skip];refine hK undef _ E ?_ (fun id h=>.inl h);have hgr:w.grownBy (w.setRow b (vs.toArray.toList.take off++(a.eval x).cells.toList++vs.toArray.toList.drop (off+n)).toArray) (some b):=E4;have hnim:¬ E.im b:=fun h=>by have:=(R.heap.im id ob b hl1 ho' hb).1 h; rw [hro] at this; cases this
 have hw:∀ k,E.im k→(w.setRow b (vs.toArray.toList.take off++(a.eval x).cells.toList++vs.toArray.toList.drop (off+n)).toArray).heap[k]? = w.heap[k]? := fun k hk=>hgr.block k (R.heap.lt k hk) (fun e=>by simp at e; subst e; exact hnim hk)
 have hob:G6 E (w.setRow b (vs.toArray.toList.take off++(a.eval x).cells.toList++vs.toArray.toList.drop (off+n)).toArray) id { ob with es:=[e.take off++(cs++e.drop (off+n))] }:=by
  refine ⟨k1,?_⟩;simp only [hrow,cond_false];refine .inl ⟨hzp,b,vs.take off++((a.eval x).cells.toList++vs.drop (off+n)),_,j1,?_,rfl,?_,?_,?_⟩
  ·have:=setRow_heap w b vs.toArray (vs.toArray.toList.take off++(a.eval x).cells.toList++vs.toArray.toList.drop (off+n)).toArray ob.e (0,0) j2
   rw [this]; simp [List.append_assoc]
  ·simp; omega
  ·exact B8.mono (fun k h=>⟨h,rfl,rfl⟩) (fun k h=>h) hw _ _ ((j5.take off).append (c1.append (j5.drop (off+n))))
  ·intro u hu
   simp only [List.mem_append] at hu;rcases hu with hu|hu|hu
   ·exact j6 u (List.mem_of_mem_take hu)
   ·exact c2 u hu
   ·exact j6 u (List.mem_of_mem_drop hu)
 have:=(R.upd hl1 ho' hro hb hgr hob hro).put (d:=dst) (fun k hk=>by rw [hN]; exact h2 k hk) (v:=.any) (u:=undef) trivial
 simp only [St.appx];rw [show d=dst from h1];exact this
theorem AgZ {n id i off:Nat} {p x:Operand} {ob:OB} {av av':AV} {e cs cs':List AV} (rd:List Nat) (hg:BD st g) (hp:ev st p=.optr id i off) (ho:hl st.h id=some ob) (hrow:ob.row=true) (hro:ob.ro=false) (he:ob.es[i]? = some e) (hx:ev st x=av) (hv:C4 true (restr rd st.h) 4 av=some av')
 (hc:Dc av'=some cs) (hpu:Ij (fun _=>none) cs=some cs') (hn:cs.length=n) (hle:Nat.ble (off+n) e.length=true) :
 BS P st ⟨⟨d,g,.store n p x⟩,.any,rd,[(id,some { ob with es:=ob.es.set i (e.take off++(cs'++e.drop (off+n))) })],0⟩:=by
 intro N ops o hlow C E a w sx hN R hag hh hnw K Q hK;rw [if_pos (C2 hlow R hag hg)];obtain ⟨h1,h2,h3,h4⟩:=Bp hlow;have hpv:=Cv R hag (x:=p) (by simp [Ci.opds]);have hxv:=Cv R hag (x:=x) (by simp [Ci.opds]);rw [hp] at hpv; rw [hx] at hxv;obtain ⟨hl1,b,hbp,hpv⟩:=hpv;have hb:=Oz hbp;have ho':hl sx.h id=some ob:=by rw [hh id (.inr (by simp))]; exact ho
 have H0:Cr E w (restr rd st.h):=R.heap.restr (fun id hid=>hh id (.inl hid));have hxi:=HS H0 4 _ _ _ hxv hv
 have hxi':Dm E.im w av' (a.eval x):=Dm.mono (by
  rintro k (hk|⟨id',ob',q1,q2,q3,q4⟩)
  ·exact hk
  ·exact (H0.im id' ob' k q1 q2 q3).2 (q4 rfl)) (fun b h=>rfl) _ _ hxi
 obtain ⟨k1,k2⟩:=R.heap.ob id ob hl1 ho';rw [hrow] at k2;obtain ⟨vs,a0,cap,j1,j2,j3,j4,j5⟩:=k2;obtain ⟨c1,c2⟩:=IS hc (Dm.rd (E:=E) _ _ hxi');have c3:=Aar hpu c1;have hvs:=Ju hc (Dm.rd (E:=E) _ _ hxi');have hle':=Nat.le_of_ble_eq_true hle;obtain ⟨r1,r2⟩:=j3.get he;have hel:e.length=ob.sz:=by have:=(Be.rd (E:=E) _ _ r1).length; omega
 have hi:i<ob.es.length:=(List.getElem?_eq_some_iff.1 he).1;have hvl:=j3.length;rcases j2.2 with ⟨_,h0⟩|⟨g',c,cur,hvv,_,hcur,hnc,hcm,hcs,htake⟩
 ·omega
 have hbg:Bz (E.val id)=some g':=by rw [hvv]; rfl
 rw [hb] at hbg;obtain rfl:=Option.some.inj hbg
 have hmul:i * ob.sz+ob.sz≤ob.es.length * ob.sz:=by
  have:=Nat.mul_le_mul_right ob.sz (show i+1≤ob.es.length from hi)
  rw [Nat.add_mul,Nat.one_mul] at this; exact this
 have hcm':ob.es.length * ob.sz≤c * ob.sz:=Nat.mul_le_mul_right _ hnc;obtain ⟨dst,op,ty,pos,after,guard⟩:=o;obtain ⟨t,gg,rfl,hs⟩:=AL h3;rw [k1] at hpv;have hrun:=RU (P:=P) (w:=w) (v:=a.eval x) (o:=i * ob.sz+off) hs (by omega) c2 hcur (by rw [hcs]; omega);unfold Oper.wp;generalize hW:(cur.toList.take (i * ob.sz+off)++(a.eval x).cells.toList++cur.toList.drop (i * ob.sz+off+n)).toArray=W at hrun
 have hex:(execOp a.eval ⟨dst,.store t p x,ty,pos,after,guard⟩).run P w=.ok .skip (w.setRow b W):=by
  simp only [execOp,hpv,Sem.run_bind,hrun,Result.andThen_ok,Sem.run_pure]
 rw [hex,Oper.upon_skip];refine hK undef _ E ?_ (fun id h=>.inl h);have hgr:w.grownBy (w.setRow b W) (some b):=E4;have hnim:¬ E.im b:=fun h=>by have:=(R.heap.im id ob b hl1 ho' hb).1 h; rw [hro] at this; cases this
 have hw:∀ k,E.im k→(w.setRow b W).heap[k]? = w.heap[k]? := fun k hk=>hgr.block k (R.heap.lt k hk) (fun e=>by simp at e; subst e; exact hnim hk);have hvt:vs=cur.toList.take (ob.es.length * ob.sz):=htake.symm;have hxl:(a.eval x).cells.toList.length=n:=by simp; omega
 have hWl:W.toList=cur.toList.take (i * ob.sz+off)++((a.eval x).cells.toList++cur.toList.drop (i * ob.sz+off+n)):=by rw [← hW]; simp
 have hnew:W.toList.take (ob.es.length * ob.sz)=vs.take (i * ob.sz)++((((vs.drop (i * ob.sz)).take ob.sz).take off++((a.eval x).cells.toList++((vs.drop (i * ob.sz)).take ob.sz).drop (off+n)))++vs.drop (i * ob.sz+ob.sz)):=by
  rw [hWl,hvt];exact Aas _ _ _ _ _ _ _ hmul (by simp; omega) hxl (by omega)
 have hob:G6 E (w.setRow b W) id { ob with es:=ob.es.set i (e.take off++(cs'++e.drop (off+n))) }:=by
  refine ⟨k1,?_⟩;simp only [hrow,cond_true];have hE:=AZ.set (i:=i) j3 hi ((r1.take off).append (c3.append (r1.drop (off+n)))) (by simp [r2]; omega);refine ⟨_,a0,cap,by simpa using j1,⟨?_,.inr ⟨b,c,W,?_,Nat.zero_le _,setRow_heap w b cur W ob.e (0,0) hcur,by simpa using hnc,hcm,?_,?_⟩⟩,AZ.mono (fun k h=>h) hw _ _ _ hE,?_,by simpa using j5⟩
  ·have:=hE.length; simpa using this
  ·simpa using hvv
  ·rw [← hcs]; have:=congrArg List.length hWl; simp at this ⊢; omega
  ·simp only [List.length_set]; exact hnew
  ·intro u hu
   simp only [List.mem_append] at hu;rcases hu with hu|(hu|hu|hu)|hu
   ·exact j4 u (List.mem_of_mem_take hu)
   ·exact j4 u (List.mem_of_mem_drop (List.mem_of_mem_take (List.mem_of_mem_take hu)))
   ·exact c2 u hu
   ·exact j4 u (List.mem_of_mem_drop (List.mem_of_mem_take (List.mem_of_mem_drop hu)))
   ·exact j4 u (List.mem_of_mem_drop hu)
 have:=(R.upd hl1 ho' hro hb hgr hob hro).put (d:=dst) (fun k hk=>by rw [hN]; exact h2 k hk) (v:=.any) (u:=undef) trivial
 simp only [St.appx];rw [show d=dst from h1];exact this
end
end Go.Proofs.YtjcolpcfcdkckaaGreat
