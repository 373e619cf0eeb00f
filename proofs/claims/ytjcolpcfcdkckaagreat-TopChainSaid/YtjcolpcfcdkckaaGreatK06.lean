/- A pointer, asked whether it is nil. -/
import Derived.Test.YtjcolpcfcdkckaaGreatK05
namespace Go.Proofs.YtjcolpcfcdkckaaGreat
set_option linter.unusedVariables false
open Go.RowKit
section
variable {P:Program} {st:St} {d:Option Nat} {g:Option (Nat × Bool)}
end
section
variable {P:Program} {st:St} {d:Option Nat} {g:Option (Nat × Bool)}
end
section
variable {P:Program} {tt:List (Nat × AV)} {hh:Hp} {nn dd:Nat} {g:Option (Nat × Bool)} {l:List AG} {acc acc':List SD} {l':List AG} {st':St}
end
theorem Als {P:Program} {acc:List SD} {l:List AG} {st:St} {acc':List SD} {l':List AG} {st':St} (hR:Ap P acc l st acc' l' st':=by
 ((repeat (first
   | (first
     | apply Yb (by first|exact True.intro|rfl) (by exact rfl)
     | apply Yc (by first|exact True.intro|rfl) (by exact rfl)
     | apply Yd (by first|exact True.intro|rfl) (by exact rfl)
     | apply Ye (by first|exact True.intro|rfl) (by exact rfl)
     | apply Yf (by first|exact True.intro|rfl) (by exact rfl)
     | apply Yg (by first|exact True.intro|rfl) (by exact rfl)
     | apply Ag9 (by exact rfl)
     | apply Aha (by exact rfl)
     | apply AjW (by exact rfl)
     | apply S6 (by first|exact True.intro|rfl) (by exact rfl) (by exact rfl) (by omega) (by omega)
     | apply S7 (by first|exact True.intro|rfl) (by exact rfl) (by exact rfl) (by omega) (by omega)
     | apply AdU (by first|exact True.intro|rfl) (by exact rfl) (by exact rfl) (by omega)
     | apply AdV (by first|exact True.intro|rfl) (by exact rfl) (by exact rfl) (by omega)
     | apply AdW (by first|exact True.intro|rfl) (by exact rfl) (by exact rfl) (by omega)
     | apply AdX (by first|exact True.intro|rfl) (by exact rfl) (by exact rfl) (by omega)
     | apply AdY (by first|exact True.intro|rfl) (by exact rfl) (by exact rfl) (by omega)
     | apply AdZ (by first|exact True.intro|rfl) (by exact rfl) (by exact rfl) (by omega)
     | apply Ad0 (by first|exact True.intro|rfl) (by exact rfl) (by exact rfl) (by omega)
     | apply Ad1 (by first|exact True.intro|rfl) (by exact rfl) (by exact rfl) (by omega)
     | apply Ad2 (by first|exact True.intro|rfl) (by exact rfl) (by exact rfl) (by omega)
     | apply Ad3 (by first|exact True.intro|rfl) (by exact rfl) (by exact rfl) (by omega)
     | apply Ad4 (by first|exact True.intro|rfl) (by exact rfl) (by exact rfl) (by omega)
     | apply Ad5 (by first|exact True.intro|rfl) (by exact rfl) (by exact rfl) (by omega)
     | apply T8 (by first|exact True.intro|rfl) (by exact rfl) (by exact rfl) (by omega) (by omega)
     | apply T9 (by first|exact True.intro|rfl) (by exact rfl) (by exact rfl) (by omega) (by omega)
     | apply Ua (by first|exact True.intro|rfl) (by exact rfl) (by exact rfl) (by omega) (by omega)
     | apply Ub (by first|exact True.intro|rfl) (by exact rfl) (by exact rfl) (by omega) (by omega) (by omega)
     | apply Uc (by first|exact True.intro|rfl) (by exact rfl) (by exact rfl) (by omega) (by omega) (by omega)
     | apply AcI (by first|exact True.intro|rfl) (by exact rfl) (by exact rfl) (by omega) (by omega)
     | apply Yh (by first|exact True.intro|rfl) (by exact rfl) (by exact rfl) (by first|assumption|omega)
     | apply QP (by first|exact True.intro|rfl) (by exact rfl) (by omega) (by omega)
     | apply QQ (by first|exact True.intro|rfl) (by exact rfl) (by omega) (by omega)
     | apply Ag1 (by first|exact True.intro|rfl) (by exact rfl) (by exact rfl) (by exact rfl)
     | apply Ag2 (by first|exact True.intro|rfl) (by exact rfl) (by exact rfl) (by omega)
     | apply Ag3 (by first|exact True.intro|rfl) (by exact rfl) (by exact rfl) (by omega)
     | apply Yi (by first|exact True.intro|rfl) (by exact rfl) (by exact rfl) (by exact rfl)
     | apply Yj (by first|exact True.intro|rfl) (by exact rfl)
     | apply Yk (by first|exact True.intro|rfl) (by exact rfl)
     | apply Ad6 (by first|exact True.intro|rfl) (by exact rfl)
     | apply OQ (by first|exact True.intro|rfl) (by exact rfl) (by exact rfl)
     | apply OR (by first|exact True.intro|rfl) (by exact rfl) (by exact rfl))
   | (first
     | apply OS (by first|exact True.intro|rfl) (by exact rfl) (by omega) (by omega)
     | apply AcE (by first|exact True.intro|rfl) (by exact rfl)
     | apply S8 (by first|exact True.intro|rfl) (by exact rfl)
     | apply OT (by first|exact True.intro|rfl) (by exact rfl)
     | apply GI (by first|exact True.intro|rfl) (by exact rfl) (by exact rfl) (by exact rfl) (by exact rfl)
     | apply Jv (by first|exact True.intro|rfl) (by exact rfl) (by exact rfl) (by exact rfl) (by exact rfl)
     | apply Jw (by first|exact True.intro|rfl) (by exact rfl) (by exact rfl) (by exact rfl) (by exact rfl)
     | apply IT (by first|exact True.intro|rfl) (by exact rfl) (by first|assumption|rfl) (by exact rfl)
     | apply OU (by first|exact True.intro|rfl) (by exact rfl) (by first|assumption|rfl) (by exact rfl)
     | apply LP (by first|exact True.intro|rfl) (by exact rfl) (by exact rfl)
     | apply OV (by first|exact True.intro|rfl) (by exact rfl) (by exact rfl)
     | apply Aea (by first|exact True.intro|rfl) (by exact rfl) (by first|assumption|rfl)
     | apply Yl (by first|exact True.intro|rfl) (by exact rfl) (by exact rfl) (by exact rfl) (by first|assumption|rfl)
     | apply LQ (by first|exact True.intro|rfl) (by exact rfl) (by exact rfl) (by omega) (by first|omega|assumption)
     | apply Ha (by first|exact True.intro|rfl) (by exact rfl) (by exact rfl) (by exact rfl) (by exact rfl) (by exact rfl) (by omega) (by first|omega|(dsimp only; omega))
     | apply Ym (by first|exact True.intro|rfl)
     | apply S9 (by first|exact True.intro|rfl)
     | apply Aeb (by first|exact True.intro|rfl) (by exact rfl) (by exact rfl) (by exact rfl)
     | apply Ta (by first|exact True.intro|rfl) (by exact rfl)
     | apply IU (by first|exact True.intro|rfl) (by exact rfl) (by exact rfl) (by exact rfl) (by exact rfl) (by exact rfl) (by exact rfl) (by exact rfl) (by exact rfl) (by exact rfl) (by exact rfl)
     | apply Yu (by first|exact True.intro|rfl) (by exact rfl) (by exact rfl) (by assumption)
     | apply Yv (by first|exact True.intro|rfl) (by exact rfl) (by exact rfl) (by assumption) (by (repeat (first|exact BE.nil|refine BE.cons (by first|exact Bl.refl _|exact Bl.nil _|exact Bl.any _|(refine Bl.agg ?_; repeat (first|exact BE.nil|refine BE.cons (by first|exact Bl.refl _|exact Bl.nil _) ?_))) ?_)))
     | apply Yw (by first|exact True.intro|rfl) (by exact rfl) (by exact rfl) (by assumption) (by exact rfl)
     | apply Yx (by first|exact True.intro|rfl) (by exact rfl) (by exact rfl) (by assumption)
     | apply Yt (by first|exact True.intro|rfl) (by exact rfl) (by exact rfl) (by exact rfl) (by exact rfl) (by assumption) (by (repeat (first|exact BE.nil|refine BE.cons (by first|exact Bl.refl _|exact Bl.nil _|exact Bl.any _|(refine Bl.agg ?_; repeat (first|exact BE.nil|refine BE.cons (by first|exact Bl.refl _|exact Bl.nil _) ?_))) ?_)))
     | apply Ahb (by first|exact True.intro|rfl) (by exact rfl) (by exact rfl) (by first|exact .inl ⟨by omega,Eq.refl _⟩|exact .inr ⟨by omega,Eq.refl _⟩)
     | apply Ahc (by first|exact True.intro|rfl) (by exact rfl) (by exact rfl) (by exact rfl) (by first|assumption|exact Eq.refl _)
     | apply TQ [] (by first|exact True.intro|rfl) (by exact rfl) (by exact rfl) (by exact rfl) (by exact rfl) (by first|assumption|rfl) (by exact rfl) (by exact rfl) (by exact rfl) (by exact rfl) (by exact rfl) (by exact rfl)
     | apply TP [] (by first|exact True.intro|rfl) (by exact rfl) (by exact rfl) (by exact rfl) (by exact rfl)
     | apply OW [] (by first|exact True.intro|rfl) (by exact rfl) (by exact rfl) (by exact rfl) (by exact rfl) (by exact rfl) (by exact rfl) (by exact rfl) (by exact rfl) (by first|omega|assumption|(dsimp only; omega)|(simp only [List.length_append,List.length_cons,List.length_nil,List.length_map,List.length_replicate,List.length_take,List.length_drop,Ep,Ab]; omega))
     | apply Qy [] (by first|exact True.intro|rfl) (by exact rfl) (by exact rfl) (by exact rfl) (by first|omega|assumption|(dsimp only; omega)|(simp only [List.length_append,List.length_cons,List.length_nil,List.length_map,List.length_replicate,List.length_take,List.length_drop,Ep,Ab]; omega))
     | apply QR (by first|exact True.intro|rfl) (by exact rfl) (by exact rfl) (by exact rfl) (by exact rfl) (by exact rfl) (by exact rfl) (by exact rfl) (by exact rfl) (by first|omega|assumption|(dsimp only; omega)|(simp only [List.length_append,List.length_cons,List.length_nil,List.length_map,List.length_replicate,List.length_take,List.length_drop,Ep,Ab]; omega))
     | apply T7 (by first|exact True.intro|rfl) (by exact rfl) (by first|exact Eq.refl _|exact ⟨_,Eq.refl _⟩) (by first|exact Eq.refl _|exact ⟨_,Eq.refl _⟩) (by assumption)
     | apply Ha (by first|exact True.intro|rfl) (by exact rfl) (by exact rfl) (by exact rfl) (by exact rfl) (by exact rfl) (by omega) (by simp only [List.length_set,List.length_append,List.length_cons,List.length_nil,List.length_replicate]; omega)
     | apply GI (by first|exact True.intro|rfl) (by exact rfl) (by exact rfl) (by assumption) (by exact rfl)
     | apply Jv (by first|exact True.intro|rfl) (by exact rfl) (by exact rfl) (by assumption) (by exact rfl)
     | apply Jw (by first|exact True.intro|rfl) (by exact rfl) (by exact rfl) (by assumption) (by exact rfl)
     | apply AcH (by first|exact True.intro|rfl) (by exact rfl) (by exact rfl) (by assumption) (by first|assumption|omega)
     | apply Ad7 (by first|exact True.intro|rfl) (by exact rfl) (by omega) (by omega)
     | apply AmT (by first|exact True.intro|rfl) (by exact rfl)
     | apply GI (by first|exact True.intro|rfl) (by exact rfl) (by exact rfl) (by exact rfl) (by assumption)
     | apply IT (by first|exact True.intro|rfl) (by exact rfl) (by first|assumption|rfl) (by assumption)
     | apply IU (by first|exact True.intro|rfl) (by exact rfl) (by exact rfl) (by exact rfl) (by exact rfl) (by exact rfl) (by exact rfl) (by exact rfl) (by exact rfl) (by assumption) (by assumption)
     | apply LQ (by first|exact True.intro|rfl) (by exact rfl) (by exact rfl) (by omega) (by simp only [List.length_map]; omega)
     | apply AcF (by first|exact True.intro|rfl) (by exact rfl) (by exact rfl) (by omega) (by omega) (by omega)))); exact Ap.refl _ _ _)):Ap P acc l st acc' l' st':=hR
theorem Ahi {P:Program} {acc:List SD} {l:List AG} {st:St} {acc':List SD} {l':List AG} {st':St} {K:List SD→St→Prop} (h:RG P acc' l' st' K) (hR:Ap P acc l st acc' l' st':=by exact Als):RG P acc l st K:=HT hR h
theorem Am1 {P:Program} {C:EH} {Q:Exit→St→Prop} {st:St} {d:Bool} {l:List AG} {free:List (Nat × Nat)} {acc:List SD} {st':St} (hQ:Q .normal st') (hR:Ap P [] l st acc [] st':=by exact Als) (hi:(bif d then GG acc.reverse free else true)=true:=by rfl):AW P C (.ops d l free) Q st:=AH (HT hR (Ak ⟨hi,hQ⟩))
theorem Aek {P:Program} {C:EH} {Q:Exit→St→Prop} {st:St} {c:Bi} {G:Prop} (hG:G) (h:AjX G→AW P C c Q st:=by
 (intro hG; repeat (first|refine Gh ?_|refine OH ?_|refine OF ?_|refine S2 ?_|refine X7 ?_|refine Ge rfl ?_|refine IP rfl ?_|refine TD rfl ?_|refine TE rfl ?_|refine Am1 ?_)
  exact hG.out)):AW P C c Q st:=h ⟨hG⟩
theorem AlL {P:Program} {st:St} {d:Option Nat} {g:Option (Nat × Bool)} {t e:TypeId} {x y:Operand} {id:Nat} {ob:OB} (hu:P.underlying t=some (.slice e)) (hg:BD st g) (hx:ev st x=.own id) (ho:hl st.h id=some ob) (hrow:ob.row=true) (hn:0<ob.es.length) (hy:ev st y=.lit (.slice none 0 0)):BS P st ⟨⟨d,g,.eqv t false x y⟩,.lit (.bool false),[id],[],0⟩ :=
 Bc [id] hg fun o C E ac w sx hlow R hr hh=>by
  have h1:=hr x (by simp [Ci.opds]);rw [hx] at h1;obtain ⟨hl1,_,hv⟩:=h1;have h2:=AX (hr y (by simp [Ci.opds])) hy;obtain ⟨k1,k2⟩:=R.heap.ob id ob hl1 (by rw [hh id (by simp)]; exact ho);rw [hrow] at k2;obtain ⟨vs,a,cap,j1,j2,_⟩:=k2
  have ha:a.isNone=false:=by
   rcases j2.2 with ⟨q1,q2⟩|⟨g',c',cur,q1,_⟩
   ·omega
   ·rw [j1] at q1; simp only [Value.slice.injEq] at q1; rw [q1.1]; rfl
  obtain ⟨dst,o,ty,pos,after,guard⟩:=o;obtain ⟨t2,rfl⟩:=AL hlow;refine ⟨.bool a.isNone,?_,by rw [ha]; rfl⟩;have hq:(eqGuard .eql t x y (.slice a ob.es.length cap) (.slice none 0 0)).run P w=.ok () w:=rfl;simp only [execOp,hv.trans j1,h2,Sem.run_bind,cond_false,hq,Result.andThen_ok,TL hu,Sem.run_pure]
section
variable {P:Program} {tt:List (Nat × AV)} {hh:Hp} {nn dd:Nat} {g:Option (Nat × Bool)} {l:List AG} {acc:List SD} {K:List SD→St→Prop}
theorem AlM {t e:TypeId} {x y:Operand} {id:Nat} {ob:OB} (hu:P.underlying t=some (.slice e)) (hn:0<ob.es.length) (h:RG P (⟨⟨some dd,g,.eqv t false x y⟩,.lit (.bool false),[id],[],0⟩::acc) l ⟨(dd,.lit (.bool false))::tt,hh,nn⟩ K)
 (hg:BD ⟨tt,hh,nn⟩ g:=by first|exact True.intro|rfl) (hx:ev ⟨tt,hh,nn⟩ x=.own id:=by rfl) (ho:hl hh id=some ob:=by rfl) (hrow:ob.row=true:=by rfl) (hy:ev ⟨tt,hh,nn⟩ y=.lit (.slice none 0 0):=by rfl) :
 RG P acc (⟨some dd,g,.eqv t false x y⟩::l) ⟨tt,hh,nn⟩ K:=RG.step (AlL hu hg hx ho hrow hn hy) h
end
theorem Aj4 {P:Program} {C:EH} {Q:Exit→St→Prop} {st:St} {c:Bi} (n id:Nat) {o:OB} (hn:st.get n=.own id) (ho:hl st.h id=some o) (hrow:o.row=true)
 (h:∀ a cap,AW P C c Q ⟨(n,.lit (.slice a o.es.length cap))::st.t,st.h,st.nx⟩):AW P C c Q st:=by
 intro code hc E ac w R;have hv:=R.tm n;rw [hn] at hv;obtain ⟨hl1,_,hv⟩:=hv;obtain ⟨k1,k2⟩:=R.heap.ob id o hl1 ho;rw [hrow] at k2;obtain ⟨vs,a,cap,j1,_⟩:=k2;refine h a cap code hc E ac w ⟨R.defers,R.size,fun k => ?_,R.heap,R.nx,R.own,R.ext,R.imx,R.imn,R.frm⟩;by_cases hk:k=n
 ·subst hk
  have e1:St.get ⟨(k,.lit (.slice a o.es.length cap))::st.t,st.h,st.nx⟩ k=.lit (.slice a o.es.length cap):=CL st.t k _;rw [e1];exact hv.trans j1
 ·have e1:St.get ⟨(n,.lit (.slice a o.es.length cap))::st.t,st.h,st.nx⟩ k=st.get k:=D7 st.t (some n) _ k (by simpa using fun h=>hk h.symm)
  rw [e1];exact R.tm k
theorem Ahj {P:Program} {C:EH} {Q:Exit→St→Prop} {st:St} {c:Bi} (h:AW P C c (fun e s=>∃ s',Ki C s s'∧Q e s') st):AW P C c Q st:=by
 intro code hc E ac w R;refine wp_mono (h code hc E ac w R) ?_;rintro e a' w' ⟨E',s,⟨s',hw,hq⟩,R'⟩;obtain ⟨E2,R2⟩:=hw E' a' w' R';exact ⟨E2,s',hq,R2⟩
theorem AaR {C:EH} {s:St} (n:Nat):Ki C s ⟨(n,.any)::s.t,s.h,s.nx⟩:=AaH (fun k E w v h=>by
 by_cases hk:k=n
 ·subst hk
  have e1:St.get ⟨(k,.any)::s.t,s.h,s.nx⟩ k=.any:=CL s.t k _;rw [e1]; trivial
 ·have e1:St.get ⟨(n,.any)::s.t,s.h,s.nx⟩ k=s.get k:=D7 s.t (some n) _ k (by simpa using fun h=>hk h.symm)
  rw [e1]; exact h) rfl (Nat.le_refl _)
theorem AZ.one {im:Nat→Prop} {w:World} {sz:Nat} {e e':List AV} (hs:∀ vs,Be im w e vs→Be im w e' vs) (vs:List Value) (h:AZ im w sz [e] vs):AZ im w sz [e'] vs:=by
 obtain ⟨x,rest,h1,h2,h3,h4⟩:=h;exact ⟨x,rest,h1,h2,hs _ h3,h4⟩
section
variable {E:CK} {w:World}
theorem RdM.app:∀ {l:List (List AV)} {es:List MapEntry} {e:List AV} {m:MapEntry},RdM E w l es→Be E.im w e [m.key,m.val]→RdM E w (l++[e]) (es++[m])
 | [],es,e,m,h,hm=>by obtain rfl:es=[]:=h; exact ⟨m,[],rfl,hm,rfl⟩
 | _::l,es,e,m,h,hm=>by
   obtain ⟨m0,rest,rfl,h1,h2⟩:=h;exact ⟨m0,rest++[m],rfl,h1,RdM.app h2 hm⟩
theorem RdM.len:∀ {l:List (List AV)} {es:List MapEntry},RdM E w l es→es.length=l.length
 | [],es,h=>by obtain rfl:es=[]:=h; rfl
 | _::l,es,h=>by
   obtain ⟨m0,rest,rfl,h1,h2⟩:=h;simp [RdM.len h2]
end
section
variable {P:Program} {st:St} {d:Option Nat} {g:Option (Nat × Bool)}
end
section
variable {P:Program} {tt:List (Nat × AV)} {hh:Hp} {nn dd:Nat} {g:Option (Nat × Bool)} {l:List AG} {acc acc':List SD} {l':List AG} {st':St}
end
section
variable {P:Program} {st:St} {d:Option Nat} {g:Option (Nat × Bool)}
theorem Am2 {x:Operand} {k:IntKind} {n:Int} (hg:BD st g) (hx:ev st x=.lit (.int k n)) (hk:k.signed=false):BS P st ⟨⟨d,g,.un .xor x⟩,.lit (.int k (k.wrap (BitVec.ofInt k.bits k.max ^^^ BitVec.ofInt k.bits n).toNat)),[],[],0⟩ :=
 Bc [] hg fun o C E ac w sx hlow R hr hh=>by
  have h1:=AX (hr x (by simp [Ci.opds])) hx;obtain ⟨dst,o,ty,pos,after,guard⟩:=o;obtain ⟨t,rfl⟩:=AL hlow;exact ⟨_,by simp [execOp,h1,Op.unary,Op.intBits,hk],rfl⟩
theorem AlN {x y:Operand} {s:ByteArray} {k:IntKind} {z:Int} {b:UInt8} (hg:BD st g) (hx:ev st x=.lit (.string s)) (hy:ev st y=.lit (.int k z)) (h0:0≤z) (hb:s[z.toNat]? = some b):BS P st ⟨⟨d,g,.sidx x y⟩,.lit (.int .u8 b.toNat),[],[],0⟩ :=
 Bc [] hg fun o C E ac w sx hlow R hr hh=>by
  have h1:=AX (hr x (by simp [Ci.opds])) hx;have h2:=AX (hr y (by simp [Ci.opds])) hy;obtain ⟨dst,o,ty,pos,after,guard⟩:=o;obtain ⟨t,rfl,hu⟩:=AL hlow;refine ⟨.int .u8 b.toNat,?_,rfl⟩
  have hrun:(Instr.index t (.string s) (.int k z)).run P w=.ok (.int .u8 b.toNat) w:=by
   simp only [Instr.index,asIntOf,Sem.run_bind,Sem.run_pure,Result.andThen_ok,run_underlying hu w,if_pos h0,hb]
  simp only [execOp,h1,h2,Sem.run_bind,hrun,Result.andThen_ok,Sem.run_pure]
theorem AaS {sz:Nat} {x:Operand} {lo hi:Option Operand} {id:Nat} {ob:OB} {l h:Nat} (hg:BD st g) (hx:ev st x=.own id) (ho:hl st.h id=some ob) (hrow:ob.row=true) (hsz:ob.sz=sz) (hlo:HJ st lo 0 l) (hhi:HJ st hi ob.es.length h) (h1:l≤h) (h2:h≤ob.es.length) (h3:l<ob.es.length) :
 BS P st ⟨⟨d,g,.slice sz x lo hi none⟩,.osl id l (h - l),[id],[],0⟩ :=
  Bc [id] hg fun o C E ac w sx hlow R hr hh=>by
 have hv:=hr x (by simp [Ci.opds]);rw [hx] at hv;obtain ⟨hl1,_,hv⟩:=hv;obtain ⟨dst,o,ty,pos,after,guard⟩:=o;obtain ⟨t,e,gg,rfl,het,hs⟩:=AL hlow;obtain ⟨k1,k2⟩:=R.heap.ob id ob hl1 (by rw [hh id (by simp)]; exact ho);rw [hrow] at k2;obtain ⟨vs,a,cap,j1,j2,_⟩:=k2;rcases j2.2 with ⟨_,h00⟩|⟨b,c,cur,hvv,_,_,hcc,_⟩
 ·omega
 ·have hvv':ac.eval x=.slice (some ⟨b,0,none⟩) ob.es.length c:=hv.trans hvv
  have hbl:(match lo.map ac.eval with|none=>l=0|some v=>∃ k,v=.int k l):=by
   cases lo with
   | none=>simp only [HJ] at hlo; simp only [Option.map_none]; omega
   | some o=>obtain ⟨k,hk⟩:=hlo; exact ⟨k,AX (hr o (by simp [Ci.opds,oL])) hk⟩
  have hbh:(match hi.map ac.eval with|none=>h=ob.es.length|some v=>∃ k,v=.int k h):=by
   cases hi with
   | none=>simp only [HJ] at hhi; simp only [Option.map_none]; omega
   | some o=>obtain ⟨k,hk⟩:=hhi; exact ⟨k,AX (hr o (by simp [Ci.opds,oL])) hk⟩
  have hrun:=HU (P:=P) (w:=w) (a:=some ⟨b,0,none⟩) (len:=ob.es.length) (cap:=c) (lo:=lo.map ac.eval) (hi:=hi.map ac.eval) (mx:=none) (l:=l) (h:=h) (m:=c) (Dt het) hs rfl hbh hbl h1 (by omega) (by omega) (by simp);rw [if_neg (by omega)] at hrun;refine ⟨.slice (some ⟨b,l * sz,none⟩) (h - l) (c - l),?_,hl1,b,ob.es.length,c,hvv,by omega,by rw [k1,hsz]⟩;simp only [execOp,hvv',Option.map_none,Sem.run_bind,hrun,Result.andThen_ok,Sem.run_pure,Option.map_some,CC,Nat.zero_add]
theorem Ahk {x y:Operand} {sz id off n:Nat} {ob:OB} {k:IntKind} {z:Int} (hg:BD st g) (hx:ev st x=.osl id off n) (ho:hl st.h id=some ob) (hsz:ob.sz=sz) (hy:ev st y=.lit (.int k z)) (h0:0≤z) (h1:z<n):BS P st ⟨⟨d,g,.iaddr sz x y⟩,.optr id (off+z.toNat) 0,[id],[],0⟩ :=
 Bc [id] hg fun o C E ac w sx hlow R hr hh=>by
  have hv:=hr x (by simp [Ci.opds]);have hz:=AX (hr y (by simp [Ci.opds])) hy;rw [hx] at hv;obtain ⟨hl1,b,len,cap,hval,hle,hv⟩:=hv;obtain ⟨dst,o,ty,pos,after,guard⟩:=o;obtain ⟨t,e,gg,rfl,hu,hs,hpos⟩:=AL hlow;obtain ⟨k1,_⟩:=R.heap.ob id ob hl1 (by rw [hh id (by simp)]; exact ho);refine ⟨.pointer (some ⟨b,(off+z.toNat) * E.sz id+0,none⟩),?_,hl1,b,by rw [hval]; rfl,rfl⟩;simp only [execOp,hv,hz,Sem.run_bind,KN hu hs h0 h1,CC,Result.andThen_ok,Sem.run_pure,Nat.add_zero,k1,hsz,Nat.add_mul]
end
def AcR (op:BinOp) (a b:Int):Option Bool :=
 match op with
 | .eql=>some (a == b)
 | .neq=>some (a != b)
 | .lss=>some (decide (a<b))
 | .leq=>some (decide (a≤b))
 | .gtr=>some (decide (a > b))
 | .geq=>some (decide (a ≥ b))
 | _=>none
theorem AcS {op:BinOp} {k:IntKind} {a b:Int} {v:Bool} (h:AcR op a b=some v):BQ op k a b=some (.bool v):=by
 cases op<;>simp only [AcR,Option.some.injEq] at h<;>first
  | (cases h; done)
  | (subst h; rfl)
section
variable {P:Program} {tt:List (Nat × AV)} {hh:Hp} {nn dd:Nat} {g:Option (Nat × Bool)} {l:List AG} {acc acc':List SD} {l':List AG} {st':St}
theorem AlO {op:BinOp} {x y:Operand} {k:IntKind} {a b:Int} {v:Bool} (hg:BD ⟨tt,hh,nn⟩ g) (hx:ev ⟨tt,hh,nn⟩ x=.lit (.int k a)) (hy:ev ⟨tt,hh,nn⟩ y=.lit (.int k b)) (hv:AcR op a b=some v) (h:Ap P (⟨⟨some dd,g,.bin op x y⟩,.lit (.bool v),[],[],0⟩::acc) l ⟨(dd,.lit (.bool v))::tt,hh,nn⟩ acc' l' st'):Ap P acc (⟨some dd,g,.bin op x y⟩::l) ⟨tt,hh,nn⟩ acc' l' st':=Ap.step' (Eo hg hx hy (AcS hv)) h
theorem AlP {x:Operand} {id off n:Nat} (hg:BD ⟨tt,hh,nn⟩ g) (hx:ev ⟨tt,hh,nn⟩ x=.osl id off n) (h:Ap P (⟨⟨some dd,g,.mov x⟩,.osl id off n,[],[],0⟩::acc) l ⟨(dd,.osl id off n)::tt,hh,nn⟩ acc' l' st'):Ap P acc (⟨some dd,g,.mov x⟩::l) ⟨tt,hh,nn⟩ acc' l' st':=Ap.step' (hx ▸ TJ hg) h
theorem AlQ {op:BinOp} {x y:Operand} {k:IntKind} {a b v:Int} (hg:BD ⟨tt,hh,nn⟩ g) (hx:ev ⟨tt,hh,nn⟩ x=.lit (.int k a)) (hy:ev ⟨tt,hh,nn⟩ y=.lit (.int k b)) (hv:BQ op k a b=some (.int k v)) (h:Ap P (⟨⟨some dd,g,.bin op x y⟩,.lit (.int k v),[],[],0⟩::acc) l ⟨(dd,.lit (.int k v))::tt,hh,nn⟩ acc' l' st'):Ap P acc (⟨some dd,g,.bin op x y⟩::l) ⟨tt,hh,nn⟩ acc' l' st':=Ap.step' (Eo hg hx hy hv) h
theorem Aj5 {k k0:IntKind} {x:Operand} {n v:Int} (hg:BD ⟨tt,hh,nn⟩ g) (hx:ev ⟨tt,hh,nn⟩ x=.lit (.int k0 n)) (hv:k.wrap n=v) (h:Ap P (⟨⟨some dd,g,.conv k x⟩,.lit (.int k v),[],[],0⟩::acc) l ⟨(dd,.lit (.int k v))::tt,hh,nn⟩ acc' l' st'):Ap P acc (⟨some dd,g,.conv k x⟩::l) ⟨tt,hh,nn⟩ acc' l' st':=by subst hv; exact Ap.step' (TK hg hx) h
theorem NN {x y:Operand} {k yk:IntKind} {a b p:Int} (hg:BD ⟨tt,hh,nn⟩ g) (hx:ev ⟨tt,hh,nn⟩ x=.lit (.int k a)) (hy:ev ⟨tt,hh,nn⟩ y=.lit (.int yk b)) (hp:(2:Int) ^ (min b.toNat k.bits)=p) (h0:0≤b) (h:Ap P (⟨⟨some dd,g,.bin .shr x y⟩,.lit (.int k (a / p)),[],[],0⟩::acc) l ⟨(dd,.lit (.int k (a / p)))::tt,hh,nn⟩ acc' l' st'):Ap P acc (⟨some dd,g,.bin .shr x y⟩::l) ⟨tt,hh,nn⟩ acc' l' st':=by
 subst hp;refine Ap.step' ((Alk hg hx hy h0).cast ?_) h;rw [Int.fdiv_eq_ediv_of_nonneg _ (Int.le_of_lt (Int.pow_pos (by omega)))]
theorem Ahl {x y:Operand} {k yk:IntKind} {a b p v:Int} (hg:BD ⟨tt,hh,nn⟩ g) (hx:ev ⟨tt,hh,nn⟩ x=.lit (.int k a)) (hy:ev ⟨tt,hh,nn⟩ y=.lit (.int yk b)) (hp:(2:Int) ^ (min b.toNat k.bits)=p) (hv:k.wrap (a * p)=v) (h0:0≤b) (h:Ap P (⟨⟨some dd,g,.bin .shl x y⟩,.lit (.int k v),[],[],0⟩::acc) l ⟨(dd,.lit (.int k v))::tt,hh,nn⟩ acc' l' st'):Ap P acc (⟨some dd,g,.bin .shl x y⟩::l) ⟨tt,hh,nn⟩ acc' l' st':=by
 subst hp hv;exact Ap.step' (Alm hg hx hy h0) h
theorem AlR {x:Operand} {k:IntKind} {n v:Int} (hg:BD ⟨tt,hh,nn⟩ g) (hx:ev ⟨tt,hh,nn⟩ x=.lit (.int k n)) (hk:k.signed=false) (hv:k.wrap (BitVec.ofInt k.bits k.max ^^^ BitVec.ofInt k.bits n).toNat=v) (h:Ap P (⟨⟨some dd,g,.un .xor x⟩,.lit (.int k v),[],[],0⟩::acc) l ⟨(dd,.lit (.int k v))::tt,hh,nn⟩ acc' l' st'):Ap P acc (⟨some dd,g,.un .xor x⟩::l) ⟨tt,hh,nn⟩ acc' l' st':=by
 subst hv; exact Ap.step' (Am2 hg hx hk) h
theorem Aj6 {x y:Operand} {s:ByteArray} {k:IntKind} {z:Int} {b:UInt8} (hg:BD ⟨tt,hh,nn⟩ g) (hx:ev ⟨tt,hh,nn⟩ x=.lit (.string s)) (hy:ev ⟨tt,hh,nn⟩ y=.lit (.int k z)) (h0:0≤z) (hb:s[z.toNat]? = some b) (h:Ap P (⟨⟨some dd,g,.sidx x y⟩,.lit (.int .u8 b.toNat),[],[],0⟩::acc) l ⟨(dd,.lit (.int .u8 b.toNat))::tt,hh,nn⟩ acc' l' st'):Ap P acc (⟨some dd,g,.sidx x y⟩::l) ⟨tt,hh,nn⟩ acc' l' st':=Ap.step' (AlN hg hx hy h0 hb) h
theorem Ahm {x y:Operand} {sz id off n:Nat} {ob:OB} {k:IntKind} {z:Int} (hg:BD ⟨tt,hh,nn⟩ g) (hx:ev ⟨tt,hh,nn⟩ x=.osl id off n) (ho:hl hh id=some ob) (hsz:ob.sz=sz) (hy:ev ⟨tt,hh,nn⟩ y=.lit (.int k z)) (h0:0≤z) (h1:z<n) (h:Ap P (⟨⟨some dd,g,.iaddr sz x y⟩,.optr id (off+z.toNat) 0,[id],[],0⟩::acc) l ⟨(dd,.optr id (off+z.toNat) 0)::tt,hh,nn⟩ acc' l' st'):Ap P acc (⟨some dd,g,.iaddr sz x y⟩::l) ⟨tt,hh,nn⟩ acc' l' st':=Ap.step' (Ahk hg hx ho hsz hy h0 h1) h
end
section
variable {P:Program} {tt:List (Nat × AV)} {hh:Hp} {nn dd:Nat} {g:Option (Nat × Bool)} {l:List AG} {acc:List SD} {K:List SD→St→Prop}
theorem Pq {sz:Nat} {x:Operand} {lo hi:Option Operand} {id:Nat} {ob:OB} (a b:Nat) (h:RG P (⟨⟨some dd,g,.slice sz x lo hi none⟩,.osl id a (b - a),[id],[],0⟩::acc) l ⟨(dd,.osl id a (b - a))::tt,hh,nn⟩ K) (h1:a≤b:=by omega) (h2:b≤ob.es.length:=by first|omega|(dsimp only; omega)) (h3:a<ob.es.length:=by first|omega|(dsimp only; omega)) (hg:BD ⟨tt,hh,nn⟩ g:=by first|exact True.intro|rfl) (hx:ev ⟨tt,hh,nn⟩ x=.own id:=by rfl) (ho:hl hh id=some ob:=by rfl) (hrow:ob.row=true:=by rfl) (hsz:ob.sz=sz:=by rfl)
 (hlo:HJ ⟨tt,hh,nn⟩ lo 0 a:=by first|exact rfl|exact ⟨_,rfl⟩) (hhi:HJ ⟨tt,hh,nn⟩ hi ob.es.length b:=by first|exact rfl|exact ⟨_,rfl⟩):RG P acc (⟨some dd,g,.slice sz x lo hi none⟩::l) ⟨tt,hh,nn⟩ K:=RG.step (AaS hg hx ho hrow hsz hlo hhi h1 h2 h3) h
end
theorem A5 {P:Program} {acc:List SD} {l:List AG} {st:St} {acc':List SD} {l':List AG} {st':St} {K:List SD→St→Prop} (h:RG P acc' l' st' K) (hR:Ap P acc l st acc' l' st':=by
 ((repeat (first
   | (first
     | apply Yb (by first|exact True.intro|rfl) (by exact rfl)
     | apply AlP (by first|exact True.intro|rfl) (by exact rfl)
     | apply Yc (by first|exact True.intro|rfl) (by exact rfl)
     | apply Yd (by first|exact True.intro|rfl) (by exact rfl)
     | apply Ye (by first|exact True.intro|rfl) (by exact rfl)
     | apply Yf (by first|exact True.intro|rfl) (by exact rfl)
     | apply Yg (by first|exact True.intro|rfl) (by exact rfl)
     | apply Ag9 (by exact rfl)
     | apply Aha (by exact rfl)
     | apply AjW (by exact rfl)
     | apply AlQ (by first|exact True.intro|rfl) (by exact rfl) (by exact rfl) (by assumption)
     | apply S6 (by first|exact True.intro|rfl) (by exact rfl) (by exact rfl) (by omega) (by omega)
     | apply S7 (by first|exact True.intro|rfl) (by exact rfl) (by exact rfl) (by omega) (by omega)
     | apply AdU (by first|exact True.intro|rfl) (by exact rfl) (by exact rfl) (by omega)
     | apply AdV (by first|exact True.intro|rfl) (by exact rfl) (by exact rfl) (by omega)
     | apply AdW (by first|exact True.intro|rfl) (by exact rfl) (by exact rfl) (by omega)
     | apply AdX (by first|exact True.intro|rfl) (by exact rfl) (by exact rfl) (by omega)
     | apply AdY (by first|exact True.intro|rfl) (by exact rfl) (by exact rfl) (by omega)
     | apply AdZ (by first|exact True.intro|rfl) (by exact rfl) (by exact rfl) (by omega)
     | apply Ad0 (by first|exact True.intro|rfl) (by exact rfl) (by exact rfl) (by omega)
     | apply Ad1 (by first|exact True.intro|rfl) (by exact rfl) (by exact rfl) (by omega)
     | apply Ad2 (by first|exact True.intro|rfl) (by exact rfl) (by exact rfl) (by omega)
     | apply Ad3 (by first|exact True.intro|rfl) (by exact rfl) (by exact rfl) (by omega)
     | apply Ad4 (by first|exact True.intro|rfl) (by exact rfl) (by exact rfl) (by omega)
     | apply Ad5 (by first|exact True.intro|rfl) (by exact rfl) (by exact rfl) (by omega)
     | apply T8 (by first|exact True.intro|rfl) (by exact rfl) (by exact rfl) (by omega) (by omega)
     | apply T9 (by first|exact True.intro|rfl) (by exact rfl) (by exact rfl) (by omega) (by omega)
     | apply Ua (by first|exact True.intro|rfl) (by exact rfl) (by exact rfl) (by omega) (by omega)
     | apply Ub (by first|exact True.intro|rfl) (by exact rfl) (by exact rfl) (by omega) (by omega) (by omega)
     | apply Uc (by first|exact True.intro|rfl) (by exact rfl) (by exact rfl) (by omega) (by omega) (by omega)
     | apply AcI (by first|exact True.intro|rfl) (by exact rfl) (by exact rfl) (by omega) (by omega)
     | apply Yh (by first|exact True.intro|rfl) (by exact rfl) (by exact rfl) (by first|assumption|omega)
     | apply QP (by first|exact True.intro|rfl) (by exact rfl) (by omega) (by omega)
     | apply QQ (by first|exact True.intro|rfl) (by exact rfl) (by omega) (by omega)
     | apply AlO (by first|exact True.intro|rfl) (by exact rfl) (by exact rfl) (by exact rfl)
     | apply Yi (by first|exact True.intro|rfl) (by exact rfl) (by exact rfl) (by exact rfl)
     | apply Yj (by first|exact True.intro|rfl) (by exact rfl)
     | apply Yk (by first|exact True.intro|rfl) (by exact rfl)
     | apply Ad6 (by first|exact True.intro|rfl) (by exact rfl)
     | apply OQ (by first|exact True.intro|rfl) (by exact rfl) (by exact rfl)
     | apply OR (by first|exact True.intro|rfl) (by exact rfl) (by exact rfl))
   | (first
     | apply OS (by first|exact True.intro|rfl) (by exact rfl) (by omega) (by omega)
     | apply Aj5 (by first|exact True.intro|rfl) (by exact rfl) (by assumption)
     | apply NN (by first|exact True.intro|rfl) (by exact rfl) (by exact rfl) (by assumption) (by first|omega|decide)
     | apply NN (p:=4294967296) (by first|exact True.intro|rfl) (by exact rfl) (by exact rfl) (by decide) (by first|omega|decide)
     | apply NN (p:=2147483648) (by first|exact True.intro|rfl) (by exact rfl) (by exact rfl) (by decide) (by first|omega|decide)
     | apply NN (p:=65536) (by first|exact True.intro|rfl) (by exact rfl) (by exact rfl) (by decide) (by first|omega|decide)
     | apply NN (p:=256) (by first|exact True.intro|rfl) (by exact rfl) (by exact rfl) (by decide) (by first|omega|decide)
     | apply NN (p:=536870912) (by first|exact True.intro|rfl) (by exact rfl) (by exact rfl) (by decide) (by first|omega|decide)
     | apply NN (p:=2) (by first|exact True.intro|rfl) (by exact rfl) (by exact rfl) (by decide) (by first|omega|decide)
     | apply Ahl (by first|exact True.intro|rfl) (by exact rfl) (by exact rfl) (by assumption) (by assumption) (by first|omega|decide)
     | apply Ahl (p:=4294967296) (by first|exact True.intro|rfl) (by exact rfl) (by exact rfl) (by decide) (by first|assumption|exact IntWalk.u64_in _ ⟨by omega,by omega⟩) (by first|omega|decide)
     | apply AlR (by first|exact True.intro|rfl) (by exact rfl) (by exact rfl) (by assumption)
     | apply Aj6 (by first|exact True.intro|rfl) (by exact rfl) (by exact rfl) (by omega) (by assumption)
     | apply Ahm (by first|exact True.intro|rfl) (by exact rfl) (by exact rfl) (by exact rfl) (by exact rfl) (by omega) (by omega)
     | apply S8 (by first|exact True.intro|rfl) (by exact rfl)
     | apply OT (by first|exact True.intro|rfl) (by exact rfl)
     | apply GI (by first|exact True.intro|rfl) (by exact rfl) (by exact rfl) (by exact rfl) (by exact rfl)
     | apply Jv (by first|exact True.intro|rfl) (by exact rfl) (by exact rfl) (by exact rfl) (by exact rfl)
     | apply Jw (by first|exact True.intro|rfl) (by exact rfl) (by exact rfl) (by exact rfl) (by exact rfl)
     | apply IT (by first|exact True.intro|rfl) (by exact rfl) (by first|assumption|rfl) (by exact rfl)
     | apply OU (by first|exact True.intro|rfl) (by exact rfl) (by first|assumption|rfl) (by exact rfl)
     | apply LP (by first|exact True.intro|rfl) (by exact rfl) (by exact rfl)
     | apply OV (by first|exact True.intro|rfl) (by exact rfl) (by exact rfl)
     | apply Aea (by first|exact True.intro|rfl) (by exact rfl) (by first|assumption|rfl)
     | apply Yl (by first|exact True.intro|rfl) (by exact rfl) (by exact rfl) (by exact rfl) (by first|assumption|rfl)
     | apply LQ (by first|exact True.intro|rfl) (by exact rfl) (by exact rfl) (by omega) (by first|omega|assumption)
     | apply Ha (by first|exact True.intro|rfl) (by exact rfl) (by exact rfl) (by exact rfl) (by exact rfl) (by exact rfl) (by omega) (by first|omega|(dsimp only; omega))
     | apply Ym (by first|exact True.intro|rfl)
     | apply S9 (by first|exact True.intro|rfl)
     | apply Aeb (by first|exact True.intro|rfl) (by exact rfl) (by exact rfl) (by exact rfl)
     | apply Ta (by first|exact True.intro|rfl) (by exact rfl)
     | apply IU (by first|exact True.intro|rfl) (by exact rfl) (by exact rfl) (by exact rfl) (by exact rfl) (by exact rfl) (by exact rfl) (by exact rfl) (by exact rfl) (by exact rfl) (by exact rfl)
     | apply Yu (by first|exact True.intro|rfl) (by exact rfl) (by exact rfl) (by assumption)
     | apply Yv (by first|exact True.intro|rfl) (by exact rfl) (by exact rfl) (by assumption) (by (repeat (first|exact BE.nil|refine BE.cons (by first|exact Bl.refl _|exact Bl.nil _|exact Bl.any _|(refine Bl.agg ?_; repeat (first|exact BE.nil|refine BE.cons (by first|exact Bl.refl _|exact Bl.nil _) ?_))) ?_)))
     | apply Yw (by first|exact True.intro|rfl) (by exact rfl) (by exact rfl) (by assumption) (by exact rfl)
     | apply Yx (by first|exact True.intro|rfl) (by exact rfl) (by exact rfl) (by assumption)
     | apply Yt (by first|exact True.intro|rfl) (by exact rfl) (by exact rfl) (by exact rfl) (by exact rfl) (by assumption) (by (repeat (first|exact BE.nil|refine BE.cons (by first|exact Bl.refl _|exact Bl.nil _|exact Bl.any _|(refine Bl.agg ?_; repeat (first|exact BE.nil|refine BE.cons (by first|exact Bl.refl _|exact Bl.nil _) ?_))) ?_)))
     | apply Ahb (by first|exact True.intro|rfl) (by exact rfl) (by exact rfl) (by first|exact .inl ⟨by omega,Eq.refl _⟩|exact .inr ⟨by omega,Eq.refl _⟩)
     | apply Ahc (by first|exact True.intro|rfl) (by exact rfl) (by exact rfl) (by exact rfl) (by first|assumption|exact Eq.refl _)
     | apply TQ [] (by first|exact True.intro|rfl) (by exact rfl) (by exact rfl) (by exact rfl) (by exact rfl) (by first|assumption|rfl) (by exact rfl) (by exact rfl) (by exact rfl) (by exact rfl) (by exact rfl) (by exact rfl)
     | apply TP [] (by first|exact True.intro|rfl) (by exact rfl) (by exact rfl) (by exact rfl) (by exact rfl)
     | apply OW [] (by first|exact True.intro|rfl) (by exact rfl) (by exact rfl) (by exact rfl) (by exact rfl) (by exact rfl) (by exact rfl) (by exact rfl) (by exact rfl) (by first|omega|assumption|(dsimp only; omega)|(simp only [List.length_append,List.length_cons,List.length_nil,List.length_map,List.length_replicate,List.length_take,List.length_drop,Ep,Ab]; omega))
     | apply Qy [] (by first|exact True.intro|rfl) (by exact rfl) (by exact rfl) (by exact rfl) (by first|omega|assumption|(dsimp only; omega)|(simp only [List.length_append,List.length_cons,List.length_nil,List.length_map,List.length_replicate,List.length_take,List.length_drop,Ep,Ab]; omega))
     | apply QR (by first|exact True.intro|rfl) (by exact rfl) (by exact rfl) (by exact rfl) (by exact rfl) (by exact rfl) (by exact rfl) (by exact rfl) (by exact rfl) (by first|omega|assumption|(dsimp only; omega)|(simp only [List.length_append,List.length_cons,List.length_nil,List.length_map,List.length_replicate,List.length_take,List.length_drop,Ep,Ab]; omega))
     | apply T7 (by first|exact True.intro|rfl) (by exact rfl) (by first|exact Eq.refl _|exact ⟨_,Eq.refl _⟩) (by first|exact Eq.refl _|exact ⟨_,Eq.refl _⟩) (by assumption)
     | apply Ha (by first|exact True.intro|rfl) (by exact rfl) (by exact rfl) (by exact rfl) (by exact rfl) (by exact rfl) (by omega) (by simp only [List.length_set,List.length_append,List.length_cons,List.length_nil,List.length_replicate]; omega)
     | apply GI (by first|exact True.intro|rfl) (by exact rfl) (by exact rfl) (by assumption) (by exact rfl)
     | apply Jv (by first|exact True.intro|rfl) (by exact rfl) (by exact rfl) (by assumption) (by exact rfl)
     | apply Jw (by first|exact True.intro|rfl) (by exact rfl) (by exact rfl) (by assumption) (by exact rfl)
     | apply AcH (by first|exact True.intro|rfl) (by exact rfl) (by exact rfl) (by assumption) (by first|assumption|omega)
     | apply Ad7 (by first|exact True.intro|rfl) (by exact rfl) (by omega) (by omega)
     | apply GI (by first|exact True.intro|rfl) (by exact rfl) (by exact rfl) (by exact rfl) (by assumption)
     | apply IT (by first|exact True.intro|rfl) (by exact rfl) (by first|assumption|rfl) (by assumption)
     | apply IU (by first|exact True.intro|rfl) (by exact rfl) (by exact rfl) (by exact rfl) (by exact rfl) (by exact rfl) (by exact rfl) (by exact rfl) (by exact rfl) (by assumption) (by assumption)
     | apply LQ (by first|exact True.intro|rfl) (by exact rfl) (by exact rfl) (by omega) (by simp only [List.length_map]; omega)
     | apply AcF (by first|exact True.intro|rfl) (by exact rfl) (by exact rfl) (by omega) (by omega) (by omega)))); exact Ap.refl _ _ _)):RG P acc l st K:=HT hR h
theorem Aj {A G:Prop} (hG:G) (h:AjX G→A:=by
 (intro hG; repeat (first|refine Gh ?_|refine OH ?_|refine OF ?_|refine S2 ?_|refine X7 ?_|refine Ge rfl ?_|refine IP rfl ?_|refine TD rfl ?_|refine TE rfl ?_|refine AH (A5 ?_)|refine Ak (And.intro (by exact rfl) ?_))
  exact hG.out)):A:=h ⟨hG⟩
def Gk {α:Type} (f:α→List AV) (z:List AV) (xs:List α) (k:Nat):List (List AV):=(xs.take k).map f++List.replicate (xs.length - k) z
theorem DI {α:Type} (f:α→List AV) (z:List AV) (xs:List α):List.replicate xs.length z=Gk f z xs 0:=by simp [Gk]
theorem DW {α:Type} (f:α→List AV) (z:List AV) (xs:List α) (k:Nat) (h:k≤xs.length):(Gk f z xs k).length=xs.length:=by
 simp [Gk]; omega
theorem DX {α:Type} (f:α→List AV) (z:List AV) (xs:List α) (k:Nat) (h:k<xs.length):(Gk f z xs k)[k]? = some z:=by
 rw [Gk,List.getElem?_append_right (by simp; omega)];simp [List.getElem?_replicate];omega
theorem DY {α:Type} (f:α→List AV) (z:List AV) (xs:List α) (k:Nat) (x:α) (h:xs[k]? = some x):(Gk f z xs k).set k (f x)=Gk f z xs (k+1):=by
 have hk:=(List.getElem?_eq_some_iff.1 h).1;rw [Gk,Gk,List.set_append_right _ _ (by simp; omega),List.take_add_one,h];have e:xs.length - k=(xs.length - (k+1))+1:=by omega
 rw [e,List.replicate_succ];simp;rw [show k - min k xs.length=0 from by omega];rfl
theorem DZ {α:Type} (f:α→List AV) (z:List AV) (xs:List α) (k:Nat) (h:¬ k<xs.length):Gk f z xs k=xs.map f:=by
 rw [Gk,List.take_of_length_le (by omega),show xs.length - k=0 from by omega]; simp
def A2:Nat:=1000000000
mutual
def okA:Al→Prop
 | .mk s sh cs=>s<18446744073709551616∧sh.length≤A2∧cs.length≤A2∧Lg cs
def okC:Ah→Prop
 | .mk l k n c ins=>l<18446744073709551616∧n.top.length≤A2∧n.bot.length≤A2∧ins.length≤A2∧Ky ins
def Lg:List Ah→Prop
 | []=>True
 | c::cs=>okC c∧Lg cs
def Ky:List Al→Prop
 | []=>True
 | a::l=>okA a∧Ky l
end
theorem Es:∀ {cs:List Ah},Lg cs↔∀ c ∈ cs,okC c
 | []=>by simp [Lg]
 | c::cs=>by simp only [Lg,List.mem_cons,forall_eq_or_imp,Es]
theorem I3:∀ {cs:List Al},Ky cs↔∀ c ∈ cs,okA c
 | []=>by simp [Ky]
 | c::cs=>by simp only [Ky,List.mem_cons,forall_eq_or_imp,I3]
theorem okA.parts {A:Al} (h:okA A):A.s<18446744073709551616∧A.shape.length≤A2∧A.cells.length≤A2∧Lg A.cells:=by cases A; exact h
theorem okC.parts {c:Ah} (h:okC c):c.l<18446744073709551616∧c.n.top.length≤A2∧c.n.bot.length≤A2∧c.ins.length≤A2∧Ky c.ins:=by cases c; exact h
mutual
theorem AaT:∀ (A:Al) (d:Nat) (n:Int),arrOK A→0≤EU A d n→n≤4000→EU A d n≤n - 1∧okA A
 | .mk s sh cs,d,n,h,h0,h1=>by
   simp only [arrOK] at h;simp only [EU] at h0 ⊢;split at h0
   ·omega
   ·rename_i hd
    rw [if_neg hd];have hb:(A2:Int)=1000000000:=rfl;obtain ⟨k1,k2⟩:=Xa cs d _ h.2.2.2.2 h0 (by omega);simp only [okA];exact ⟨by omega,h.1,by omega,by omega,k2⟩
theorem Xa:∀ (cs:List Ah) (d:Nat) (n:Int),CT cs→0≤Dd cs d n→n≤4000→Dd cs d n≤n - cs.length∧Lg cs
 | [],d,n,h,h0,h1=>by simp [Dd,Lg]
 | c::cs,d,n,h,h0,h1=>by
   simp only [CT] at h;simp only [Dd] at h0 ⊢;by_cases hn:0≤n
   ·rw [if_pos hn] at h0 ⊢
    by_cases hm:0≤Pn c d n
    ·obtain ⟨a1,a2⟩:=Ahn c d n h.1 hm h1
     obtain ⟨k1,k2⟩:=Xa cs d _ h.2 h0 (by omega);simp only [Lg,List.length_cons];exact ⟨by omega,a2,k2⟩
    ·rw [Ui _ _ _ (by omega)] at h0; omega
   ·rw [if_neg hn] at h0; omega
theorem Ahn:∀ (c:Ah) (d:Nat) (n:Int),cellOK c→0≤Pn c d n→n≤4000→Pn c d n≤n - 1∧okC c
 | .mk l k nm ch ins,d,n,h,h0,h1=>by
   simp only [cellOK] at h;simp only [Pn] at h0 ⊢;have hb:(A2:Int)=1000000000:=rfl;obtain ⟨k1,k2⟩:=Xb ins _ _ h.2.2.2.2.2 h0 (by omega);simp only [okC];exact ⟨by omega,h.1,by omega,by omega,by omega,k2⟩
theorem Xb:∀ (cs:List Al) (d:Nat) (n:Int),Dh cs→0≤Dv cs d n→n≤4000→Dv cs d n≤n - cs.length∧Ky cs
 | [],d,n,h,h0,h1=>by simp [Dv,Ky]
 | c::cs,d,n,h,h0,h1=>by
   simp only [Dh] at h;simp only [Dv] at h0 ⊢;by_cases hn:0≤n
   ·rw [if_pos hn] at h0 ⊢
    by_cases hm:0≤EU c d n
    ·obtain ⟨a1,a2⟩:=AaT c d n h.1 hm h1
     obtain ⟨k1,k2⟩:=Xb cs d _ h.2 h0 (by omega);simp only [Ky,List.length_cons];exact ⟨by omega,a2,k2⟩
    ·rw [Uj _ _ _ (by omega)] at h0; omega
   ·rw [if_neg hn] at h0; omega
end
theorem AlS {A:Al} (h:arrOK A) (hf:AcQ A=true):okA A:=(AaT A 12 4000 h (of_decide_eq_true hf) (by omega)).2
mutual
theorem okA.wf:∀ {A:Al},okA A→wfA A
 | .mk s sh cs,h=>by
   simp only [okA] at h;exact ⟨h.1,Lg.wf h.2.2.2⟩
theorem Lg.wf:∀ {cs:List Ah},Lg cs→AaN cs
 | [],h=>by simp [AaN]
 | c::cs,h=>by
   simp only [Lg] at h;exact ⟨okC.wf h.1,Lg.wf h.2⟩
theorem okC.wf:∀ {c:Ah},okC c→wfC c
 | .mk l k n c ins,h=>by
   simp only [okC] at h;exact ⟨h.1,Ky.wf h.2.2.2.2⟩
theorem Ky.wf:∀ {xs:List Al},Ky xs→AaO xs
 | [],h=>by simp [AaO]
 | a::xs,h=>by
   simp only [Ky] at h;exact ⟨okA.wf h.1,Ky.wf h.2⟩
end
def Dw (xs:List Int):Nat→Nat
 | 0=>0
 | k+1=>if xs[k]? = some 0 then Dw xs k else k+1
def CJ (xs:List Int):List Int:=xs.take (Dw xs xs.length)
theorem BT (xs:List Int):(CJ xs).length≤xs.length:=by simp [CJ]; omega
theorem Lh (xs:List Int):Ae Tryz.prog 235 [.sl 1 (Ab .u32 xs)] (.sl 1 (Ab .u32 (CJ xs))):=by
 have lx:=Ac .u32 xs;refine Aa Wd fun C hC => ?_;refine DN 0 ((Ab .u32 xs).length≤281474976710656) (fun E w v h=>DO h) fun hx => ?_;refine AI ?_;refine Dr (X:=Nat) (fun k=>⟨[(0,.sl 1 (Ab .u32 xs)),(2,.lit (.slice none 0 0)),(3,.lit (.int .i64 k))],[],0⟩) (fun k=>k≤xs.length∧Dw xs xs.length=Dw xs k) (fun k=>k) xs.length (wk hC [] [0,2,3] 0) ⟨Nat.le_refl _,rfl⟩ ?_;rintro k ⟨hk,hE⟩
 have Am:Dw xs xs.length=k→Ab .u32 (CJ xs)=((Ab .u32 xs).drop 0).take (k - 0):=fun he=>by
  rw [CJ,he,List.drop_zero,Nat.sub_zero,Ab,Ab,List.map_take]
 cases k with
 | zero =>
   refine AI ?_;refine AH (A1 ?_);refine AaB 0 0 ?_ ?_ ?_
   ·omega
   ·omega
   refine A1 ?_;refine Ak ⟨rfl,?_⟩;refine AI ?_;rw [Am hE];exact ⟨_,_,rfl,rfl,Bl.refl _⟩
 | succ k =>
   obtain ⟨x,hx'⟩:∃ x,xs[k]? = some x:=⟨_,List.getElem?_eq_getElem (by omega)⟩
   have hxk:(Ab .u32 xs)[(((k+1:Nat):Int) - 1).toNat]? = some [.lit (.int .u32 x)]:=by
    rw [show (((k+1:Nat):Int) - 1).toNat=k from by omega]; exact Az hx'
   by_cases h0:x=0
   ·rw [Dw,if_pos (by rw [hx',h0])] at hE
    refine AI ?_;exact ⟨k,by omega,⟨by omega,hE⟩,wk hC [] [0,2,3] 0 (by rw [show ((k:Nat):Int)=((k+1:Nat):Int) - 1 from by omega]; rfl)⟩
   ·rw [Dw,if_neg (by rw [hx']; simpa using h0)] at hE
    refine AI ?_;refine AH (A1 ?_);refine AaB 0 (k+1) ?_ ?_ ?_
    ·omega
    ·omega
    refine A1 ?_;refine Ak ⟨rfl,?_⟩;refine AI ?_;rw [Am hE];exact ⟨_,_,rfl,rfl,Bl.refl _⟩
theorem QW (xs:List Int) (hb:xs.length≤A2):Ae Tryz.prog 216 [.sl 1 (Ab .u32 xs)] (.sl 1 (Ab .u32 (CJ xs))):=by
 have hB:A2=1000000000:=rfl;have hl:=BT xs;have lx:=Ac .u32 (CJ xs);refine Aa M7 fun C hC => ?_;refine AI ?_;refine AH (A1 ?_);refine B3 (Lh xs) (A1 ?_);refine Ak ⟨rfl,?_⟩;refine AI ?_;refine AH (A1 ?_);refine AlG ?_ ?_ ?_ ?_
 ·omega
 ·omega
 ·omega
 refine A1 ?_;refine Ak ⟨rfl,?_⟩;refine AI ?_;refine AH (A1 ?_);refine TR ?_ ?_
 ·simp [Ab]
 refine A1 ?_;refine Ak ⟨rfl,?_⟩;refine AI ?_;refine ⟨_,_,rfl,rfl,?_⟩;have e:Ab .u32 (CJ xs)++(List.replicate (((CJ xs).length:Nat):Int).toNat ([.int .u32 0].map AV.lit)).drop (Ab .u32 (CJ xs)).length=Ab .u32 (CJ xs):=by simp [Ab]
 rw [e];exact Bl.refl _
def Cs (n:Bool) (m:List Int):List AV:=[.lit (.bool n),.sl 1 (Ab .u32 m)]
def sgn (n:Bool) (m:List Int):Bool:=if m.length=0 then false else n
theorem Pr (n:Bool) (m:List Int):Ae Tryz.prog 215 [.lit (.bool n),.sl 1 (Ab .u32 m)] (.agg (Cs (sgn n m) m)):=by
 have lm:=Ac .u32 m;refine Aa O2 fun C hC => ?_;by_cases h:m.length=0
 ·have e:m=[]:=List.eq_nil_of_length_eq_zero h
  subst e;refine AI ?_;exact ⟨_,_,rfl,rfl,Bl.agg (BE.cons (Bl.refl _) (BE.cons (Bl.nil _) BE.nil))⟩
 ·rw [sgn,if_neg h]
  refine AI ?_;exact ⟨_,_,rfl,rfl,Bl.refl _⟩
theorem YA (n:Bool) (m:List Int) (hb:m.length≤A2):Ae Tryz.prog 199 [.agg (Cs n m)] (.agg (Cs (sgn n (CJ m)) (CJ m))):=by
 refine Aa Sg fun C hC => ?_;refine AI ?_;refine AH (A1 ?_);refine B3 (QW m hb) (A1 ?_);refine B3 (Pr n (CJ m)) (A1 ?_);refine Ak ⟨rfl,?_⟩;refine AI ?_;exact ⟨_,_,rfl,rfl,Bl.refl _⟩
def I4 (z:Int):List Int:=[(z.natAbs % 4294967296:Nat),(z.natAbs / 4294967296:Nat)]
theorem Ps (n:Nat):IntKind.u32.wrap (n:Int)=(n % 4294967296:Nat):=by
 simp only [IntKind.wrap,IntKind.bits,IntKind.signed];simp
theorem Am3 (z:Int) (h0:0≤z) (h1:z≤9223372036854775807):Ae Tryz.prog 174 [.lit (.int .i64 z)] (.agg (Cs (sgn false (CJ (I4 z))) (CJ (I4 z)))):=by
 have hd:(I4 z).length≤A2:=by simp [I4,A2]
 have hq:z.natAbs / 4294967296<4294967296:=by omega
 have e0:IntKind.u64.wrap z=(z.natAbs:Int):=by
  rw [IntWalk.u64_in _ (by omega)]; omega
 have e1:IntKind.u32.wrap (IntKind.u64.wrap z)=(z.natAbs % 4294967296:Nat):=by rw [e0,Ps]
 have e2:(IntKind.u64.wrap z).fdiv (2 ^ (min (32:Int).toNat IntKind.u64.bits))=(z.natAbs / 4294967296:Nat):=by
  rw [e0,show (2:Int) ^ (min (32:Int).toNat IntKind.u64.bits)=((4294967296:Nat):Int) from rfl,Int.fdiv_eq_ediv_of_nonneg _ (by omega)]; rfl
 have e3:IntKind.u32.wrap ((z.natAbs / 4294967296:Nat):Int)=(z.natAbs / 4294967296:Nat):=by rw [Ps,Nat.mod_eq_of_lt hq]
 refine Aa M6 fun C hC => ?_;refine AI ?_;refine AH (A1 ?_);refine Aln (z.natAbs / 4294967296:Nat) ?_ (hv:=e2);refine A1 ?_;refine Hb ?_;refine Ys 1 [1] (avs':=[.sl 1 (Ab .u32 (I4 z))]) (QW (I4 z) hd) ?_ (hs:=BE.cons ?_ BE.nil)
 ·refine A1 ?_
  refine B3 (Pr false (CJ (I4 z))) (A1 ?_);refine Ak ⟨rfl,?_⟩;refine AI ?_;exact ⟨_,_,rfl,rfl,Bl.refl _⟩
 ·rw [e1,e3]; exact Bl.refl _
def Aj7 (n:Bool) (m:List Int):Fx:=⟨sgn n (CJ m),CJ m,[1]⟩
theorem Ael (n:Bool) (m:List Int) (hb:m.length≤A2) (h32:(CJ m).length≤32):Ae Tryz.prog 173 [.agg (Cs n m)] (.agg (AY (Aj7 n m))):=by
 have lm:=Ac .u32 (CJ m);refine Aa QB fun C hC => ?_;refine AI ?_;refine AH (A1 ?_);refine B3 (YA n m hb) (A1 ?_);refine Ak ⟨rfl,?_⟩;refine AI ?_;refine AH (A1 ?_);refine Hb ?_;refine A1 ?_;refine Ak ⟨rfl,?_⟩;refine AI ?_;exact ⟨_,_,rfl,rfl,Bl.refl _⟩
theorem Aho (z:Int):(I4 z).length=2:=rfl
theorem Ahp (c:Ah) (h1:c.n.top.length≤A2) (h2:c.n.bot.length≤A2) (h3:c.ins.length≤A2):Ae Tryz.prog 144 [.agg (Au c)] (.agg (Au c)):=by
 have hB:A2=1000000000:=rfl;have ltop:=Ac .u32 c.n.top;have lbot:=Ac .u32 c.n.bot;have lin:=E5 c;refine Aa TT fun C hC => ?_;refine AI ?_;refine AH (A1 ?_);refine B3 (Uf (Ab .u32 c.n.top) (by omega)) (A1 ?_);refine B3 (Uf (Ab .u32 c.n.bot) (by omega)) (A1 ?_);refine B3 (AcK (c.ins.map Dg) (by omega)) (A1 ?_);refine Ak ⟨rfl,?_⟩;refine AI ?_;exact ⟨_,_,rfl,rfl,Bl.refl _⟩
theorem Li (c:Ah) (h1:c.n.top.length≤A2) (h2:c.n.bot.length≤A2) (h3:c.ins.length≤A2):Ae Tryz.prog 124 [.agg (Au c)] (.agg (Ao (.mk 0 [] [c]))):=by
 have e:[c].map Av=[Au c]:=by simp [Bv]
 refine Aa O1 fun C hC => ?_;refine AI ?_;refine AH (A1 ?_);refine B3 (Ahp c h1 h2 h3) (A1 ?_);refine Hb ?_;refine A1 ?_;refine Ak ⟨rfl,?_⟩;refine AI ?_;refine ⟨_,_,rfl,rfl,?_⟩;simp only [Ao,Al.s,Al.shape,Al.cells];rw [e];exact Bl.agg (BE.cons (Bl.refl _) (BE.cons (Bl.nil _) (BE.cons (Bl.refl _) BE.nil)))
def AD (xs:List Int):Prop:=∀ z ∈ xs,0≤z∧z<4294967296
def hd (xs:List Int):Int:=xs.headD 0
def De (xs:List Int) (i:Nat):Int:=hd (xs.drop i)
def AF:List Int→Nat
 | []=>0
 | z::zs=>z.toNat+4294967296 * AF zs
theorem AD.tail {xs:List Int} (h:AD xs):AD xs.tail:=fun z hz=>h z (List.mem_of_mem_tail hz)
theorem AD.drop {xs:List Int} (h:AD xs) (k:Nat):AD (xs.drop k):=fun z hz=>h z (List.mem_of_mem_drop hz)
theorem Hi {xs:List Int} (h:AD xs):0≤hd xs∧hd xs<4294967296:=by
 cases xs with
 | nil=>simp [hd]
 | cons z zs=>exact h z (by simp)
theorem D0 {xs:List Int} (h:AD xs) (i:Nat):0≤De xs i∧De xs i<4294967296:=Hi (h.drop i)
theorem Aj8 {xs:List Int} {i:Nat} {z:Int} (h:xs[i]? = some z):De xs i=z:=by
 obtain ⟨hi,rfl⟩:=List.getElem?_eq_some_iff.1 h;unfold De hd;rw [List.drop_eq_getElem_cons hi]; rfl
theorem Ahq {xs:List Int} {i:Nat} (h:xs.length≤i):De xs i=0:=by simp [De,hd,List.drop_eq_nil_of_le h]
theorem JH (xs:List Int):AF xs=(hd xs).toNat+4294967296 * AF xs.tail:=by
 cases xs with
 | nil=>simp only [AF,hd,List.headD_nil,List.tail_nil,Int.toNat_zero,Nat.mul_zero,Nat.add_zero]
 | cons z zs=>simp only [AF,hd,List.headD_cons,List.tail_cons]
theorem tail_drop (xs:List Int) (k:Nat):(xs.drop k).tail=xs.drop (k+1):=by rw [List.tail_drop]
theorem Pt (xs:List Int) (k:Nat):hd (xs.drop k)=De xs k:=rfl
def limbs (n:Nat):List Int:=if h:n=0 then [] else ((n % 4294967296:Nat):Int)::limbs (n / 4294967296)
termination_by n
decreasing_by omega
theorem AC:limbs 0=[]:=by rw [limbs]; simp
theorem Bf {n:Nat} (h:n≠0):limbs n=((n % 4294967296:Nat):Int)::limbs (n / 4294967296):=by rw [limbs,dif_neg h]
theorem Cj {n:Nat}:limbs n=[]↔n=0:=by
 constructor
 ·intro h
  cases n with
  | zero=>rfl
  | succ n=>rw [Bf (by omega)] at h; cases h
 ·rintro rfl; exact AC
theorem Ar (n:Nat):AD (limbs n):=by
 induction n using Nat.strongRecOn with
 | _ n ih =>
   by_cases h:n=0
   ·subst h; rw [AC]; intro z hz; cases hz
   ·rw [Bf h]
    intro z hz;rcases List.mem_cons.1 hz with rfl|hz
    ·omega
    ·exact ih _ (by omega) z hz
theorem Aq (n:Nat):AF (limbs n)=n:=by
 induction n using Nat.strongRecOn with
 | _ n ih =>
   by_cases h:n=0
   ·subst h; rw [AC]; rfl
   ·rw [Bf h,AF,ih _ (by omega)]
    omega
theorem Bj:∀ {m n:Nat},m≤n→(limbs m).length≤(limbs n).length:=by
 intro m
 induction m using Nat.strongRecOn with
 | _ m ih =>
   intro n h;by_cases hm:m=0
   ·subst hm; rw [AC]; simp
   ·rw [Bf hm,Bf (by omega:n≠0)]
    simp only [List.length_cons]
    have:=ih (m / 4294967296) (by omega) (n:=n / 4294967296) (Nat.div_le_div_right h)
    omega
theorem Bh:∀ (k n:Nat),n<2 ^ k→(limbs n).length≤k
 | 0,n,h=>by
   have:n=0:=by simpa using h
   subst this; rw [AC]; simp
 | k+1,n,h=>by
   by_cases hn:n=0
   ·subst hn; rw [AC]; simp
   ·rw [Bf hn]
    simp only [List.length_cons]
    have:=Bh k (n / 4294967296) (by rw [Nat.pow_succ] at h; omega)
    omega
def J7:List Int→List Int
 | []=>[]
 | z::zs=>if J7 zs=[]∧z=0 then [] else z::J7 zs
theorem Uk (x:Int):∀ l:List Int,J7 (l++[x])=if x=0 then J7 l else l++[x]
 | []=>by by_cases h:x=0<;>simp [J7,h]
 | z::l=>by
   have ih:=Uk x l;simp only [List.cons_append,J7,ih];by_cases h:x=0
   ·simp [h]
   ·simp [h]
theorem Xc (xs:List Int):∀ k,k≤xs.length→xs.take (Dw xs k)=J7 (xs.take k)
 | 0,_=>by simp [Dw,J7]
 | k+1,h=>by
   have ih:=Xc xs k (by omega);have hk:xs[k]? = some xs[k]:=by simp
   rw [List.take_succ_eq_append_getElem (by omega),Uk];simp only [Dw];by_cases h0:xs[k]=0
   ·rw [if_pos (by rw [hk,h0]),if_pos h0]; exact ih
   ·rw [if_neg (by rw [hk]; simpa using h0),if_neg h0,List.take_succ_eq_append_getElem (by omega)]
theorem Aj9 (xs:List Int):CJ xs=J7 xs:=by
 rw [CJ,Xc xs _ (Nat.le_refl _),List.take_length]
theorem RZ:∀ {xs:List Int},AD xs→J7 xs=limbs (AF xs)
 | [],_=>by simp [J7,AF,AC]
 | z::zs,h=>by
   have ih:=RZ h.tail;simp only [List.tail_cons] at ih;have hz:=h z (by simp);simp only [J7,ih,Cj,AF];by_cases h0:AF zs=0∧z=0
   ·rw [if_pos h0,h0.1,h0.2]; simp [AC]
   ·rw [if_neg h0,Bf (n:=z.toNat+4294967296 * AF zs) (by omega)]
    have e1:(z.toNat+4294967296 * AF zs) % 4294967296=z.toNat:=by omega
    have e2:(z.toNat+4294967296 * AF zs) / 4294967296=AF zs:=by omega
    rw [e1,e2];congr 1;omega
theorem A0 {xs:List Int} (h:AD xs):CJ xs=limbs (AF xs):=(Aj9 xs).trans (RZ h)
theorem FD (n:Nat):CJ (limbs n)=limbs n:=by rw [A0 (Ar n),Aq]
def NO:Nat→List Int→List Int→Int→List Int
 | 0,_,_,_=>[]
 | n+1,xs,ys,c=>((hd xs+hd ys+c) % 4294967296)::NO n xs.tail ys.tail ((hd xs+hd ys+c) / 4294967296)
def NP:Nat→List Int→List Int→Int→List Int
 | 0,_,_,_=>[]
 | n+1,xs,ys,b=>((4294967296+hd xs - hd ys - b) % 4294967296)::NP n xs.tail ys.tail (1 - (4294967296+hd xs - hd ys - b) / 4294967296)
def EJ:Nat→List Int→Int→List Int
 | 0,_,_=>[]
 | n+1,xs,c=>((2 * hd xs+c) % 4294967296)::EJ n xs.tail ((2 * hd xs+c) / 4294967296)
theorem Hj {xs:List Int} (h:xs.length≤0):xs=[]:=List.eq_nil_of_length_eq_zero (by omega)
theorem AaU:∀ (n:Nat) (xs ys:List Int) (c:Int),AD xs→AD ys→xs.length≤n→ys.length≤n→0≤c→c≤1→(AF (NO (n+1) xs ys c):Int)=AF xs+AF ys+c∧AD (NO (n+1) xs ys c)
 | 0,xs,ys,c,hx,hy,lx,ly,h0,h1=>by
   rw [Hj lx,Hj ly];simp only [NO,hd,List.headD_nil,AF];refine ⟨by omega,fun z hz => ?_⟩;simp only [List.mem_singleton] at hz; omega
 | n+1,xs,ys,c,hx,hy,lx,ly,h0,h1=>by
   have h2:=Hi hx;have h3:=Hi hy;have e1:=JH xs;have e2:=JH ys;obtain ⟨ih1,ih2⟩:=AaU n xs.tail ys.tail ((hd xs+hd ys+c) / 4294967296) hx.tail hy.tail (by simp; omega) (by simp; omega) (by omega) (by omega);rw [NO,AF];refine ⟨by omega,fun z hz => ?_⟩;rcases List.mem_cons.1 hz with rfl|hz
   ·omega
   ·exact ih2 z hz
theorem Ul:∀ (n:Nat) (xs:List Int) (c:Int),AD xs→xs.length≤n→0≤c→c≤1→(AF (EJ (n+1) xs c):Int)=2 * AF xs+c∧AD (EJ (n+1) xs c)
 | 0,xs,c,hx,lx,h0,h1=>by
   rw [Hj lx];simp only [EJ,hd,List.headD_nil,AF];refine ⟨by omega,fun z hz => ?_⟩;simp only [List.mem_singleton] at hz; omega
 | n+1,xs,c,hx,lx,h0,h1=>by
   have h2:=Hi hx;have e1:=JH xs;obtain ⟨ih1,ih2⟩:=Ul n xs.tail ((2 * hd xs+c) / 4294967296) hx.tail (by simp; omega) (by omega) (by omega);rw [EJ,AF];refine ⟨by omega,fun z hz => ?_⟩;rcases List.mem_cons.1 hz with rfl|hz
   ·omega
   ·exact ih2 z hz
theorem AaV:∀ (n:Nat) (xs ys:List Int) (b:Int),AD xs→AD ys→xs.length≤n→ys.length≤n→0≤b→b≤1→(AF ys:Int)+b≤AF xs→(AF (NP n xs ys b):Int)=AF xs - AF ys - b∧AD (NP n xs ys b)
 | 0,xs,ys,b,hx,hy,lx,ly,h0,h1,h=>by
   rw [Hj lx,Hj ly] at h ⊢;simp only [NP,AF] at h ⊢;refine ⟨by omega,fun z hz=>by cases hz⟩
 | n+1,xs,ys,b,hx,hy,lx,ly,h0,h1,h=>by
   have h2:=Hi hx;have h3:=Hi hy;have e1:=JH xs;have e2:=JH ys;obtain ⟨ih1,ih2⟩:=AaV n xs.tail ys.tail (1 - (4294967296+hd xs - hd ys - b) / 4294967296) hx.tail hy.tail (by simp; omega) (by simp; omega) (by omega) (by omega) (by omega);rw [NP,AF];refine ⟨by omega,fun z hz => ?_⟩;rcases List.mem_cons.1 hz with rfl|hz
   ·omega
   ·exact ih2 z hz
theorem AaW:∀ (n:Nat) (xs ys:List Int) (c:Int),(NO n xs ys c).length=n
 | 0,_,_,_=>rfl
 | n+1,_,_,_=>by simp [NO,AaW n]
theorem AaX:∀ (n:Nat) (xs ys:List Int) (c:Int),(NP n xs ys c).length=n
 | 0,_,_,_=>rfl
 | n+1,_,_,_=>by simp [NP,AaX n]
theorem Um:∀ (n:Nat) (xs:List Int) (c:Int),(EJ n xs c).length=n
 | 0,_,_=>rfl
 | n+1,_,_=>by simp [EJ,Um n]
theorem AaY (xs:List Int) (L k:Nat) (h:k<L) (c:Int):EJ (L - k) (xs.drop k) c=((2 * De xs k+c) % 4294967296)::EJ (L - (k+1)) (xs.drop (k+1)) ((2 * De xs k+c) / 4294967296):=by
 rw [show L - k=(L - (k+1))+1 from by omega,EJ,Pt,tail_drop]
theorem AfJ (xs ys:List Int) (L k:Nat) (h:k<L) (c:Int):NO (L - k) (xs.drop k) (ys.drop k) c=((De xs k+De ys k+c) % 4294967296)::NO (L - (k+1)) (xs.drop (k+1)) (ys.drop (k+1)) ((De xs k+De ys k+c) / 4294967296):=by
 rw [show L - k=(L - (k+1))+1 from by omega,NO,Pt,Pt,tail_drop,tail_drop]
theorem AfK (xs ys:List Int) (L k:Nat) (h:k<L) (c:Int):NP (L - k) (xs.drop k) (ys.drop k) c=((4294967296+De xs k - De ys k - c) % 4294967296)::NP (L - (k+1)) (xs.drop (k+1)) (ys.drop (k+1)) (1 - (4294967296+De xs k - De ys k - c) / 4294967296):=by
 rw [show L - k=(L - (k+1))+1 from by omega,NP,Pt,Pt,tail_drop,tail_drop]
def DK (a b:Nat):Int:=if a<b then -1 else if b<a then 1 else 0
theorem Hk (B:Nat) (hB:B=4294967296) (xs:List Int) (h:AD xs):∀ k:Nat,∃ t,t<B ^ k∧AF xs=t+B ^ k * AF (xs.drop k)
 | 0=>⟨0,by simp,by simp⟩
 | k+1=>by
   obtain ⟨t,h1,h2⟩:=Hk B hB xs h k;have h3:=Hi (h.drop k);have e:=JH (xs.drop k);rw [tail_drop,← hB] at e;refine ⟨t+B ^ k * (hd (xs.drop k)).toNat,?_,?_⟩
   ·rw [Nat.pow_succ]
    have h4:(hd (xs.drop k)).toNat+1≤B:=by omega
    have h5:=Nat.mul_le_mul_left (B ^ k) h4;rw [Nat.mul_add,Nat.mul_one] at h5;omega
   ·rw [h2,e,Nat.mul_add,Nat.pow_succ,← Nat.mul_assoc,Nat.add_assoc]
theorem J8 {xs ys:List Int} (hx:AD xs) (hy:AD ys) (k:Nat) (h:AF (xs.drop k)<AF (ys.drop k)):AF xs<AF ys:=by
 obtain ⟨t,h1,h2⟩:=Hk 4294967296 rfl xs hx k;obtain ⟨u,h3,h4⟩:=Hk 4294967296 rfl ys hy k;have h5:=Nat.mul_le_mul_left (4294967296 ^ k) (show AF (xs.drop k)+1≤AF (ys.drop k) from h);rw [Nat.mul_add,Nat.mul_one] at h5;omega
theorem Xd (xs:List Int) (k:Nat):AF (xs.drop k)=(De xs k).toNat+4294967296 * AF (xs.drop (k+1)):=by
 rw [JH,tail_drop]; rfl
def Kz (a:List Int) (i:Nat):Int:=De a (i / 32) / 2 ^ (i % 32) % 2
theorem Un (a:List Int) (i:Nat):0≤Kz a i∧Kz a i≤1:=by unfold Kz; omega
def dmF (a:List Int) (b:Nat):Nat→Nat→Nat→Nat × Nat
 | 0,q,r=>(q,r)
 | n+1,q,r=>if b≤2 * r+(Kz a n).toNat then dmF a b n (2 * q+1) (2 * r+(Kz a n).toNat - b) else dmF a b n (2 * q) (2 * r+(Kz a n).toNat)
def dm (a:List Int) (b:Nat):Nat × Nat:=if b=0 then (0,0) else dmF a b (32 * a.length) 0 0
theorem AcT (a:List Int) (b:Nat):∀ (n q r:Nat),r<b→(dmF a b n q r).2<b∧(dmF a b n q r).1<(q+1) * 2 ^ n
 | 0,q,r,h=>⟨h,by simp [dmF]⟩
 | n+1,q,r,h=>by
   have hb:=Un a n;simp only [dmF];split
   ·obtain ⟨h1,h2⟩:=AcT a b n (2 * q+1) (2 * r+(Kz a n).toNat - b) (by omega)
    refine ⟨h1,?_⟩;have e:(q+1) * 2 ^ (n+1)=(2 * q+1+1) * 2 ^ n:=by rw [Nat.pow_succ,Nat.mul_comm (2 ^ n) 2,← Nat.mul_assoc]; congr 1; omega
    omega
   ·obtain ⟨h1,h2⟩:=AcT a b n (2 * q) (2 * r+(Kz a n).toNat) (by omega)
    refine ⟨h1,?_⟩;have e:(q+1) * 2 ^ (n+1)=(2 * q+1+1) * 2 ^ n:=by rw [Nat.pow_succ,Nat.mul_comm (2 ^ n) 2,← Nat.mul_assoc]; congr 1; omega
    have e2:(2 * q+1) * 2 ^ n≤(2 * q+1+1) * 2 ^ n:=Nat.mul_le_mul_right _ (by omega);omega
theorem Alt (a:List Int) {b:Nat} (h:b≠0):(dm a b).2<b∧(dm a b).1<2 ^ (32 * a.length):=by
 rw [dm,if_neg h]
 have:=AcT a b (32 * a.length) 0 0 (by omega)
 simpa using this
def JI:Nat→Nat→Nat→Nat
 | 0,x,_=>x
 | k+1,x,y=>if y=0 then x else JI k y (dm (limbs x) y).2
theorem FY.lim {n:Fx} (h:FY n):AD n.top∧AD n.bot:=by
 have h1:IntKind.u32.min=0:=by decide
 have h2:IntKind.u32.max=4294967295:=by decide
 have key:∀ z:Int,(Lit.int .u32 z).wf=true→0≤z∧z<4294967296:=fun z hz=>by
  have h':IntKind.u32.min≤z∧z≤IntKind.u32.max:=by simpa [Lit.wf] using hz
  omega
 exact ⟨fun z hz=>key z (h.1 z hz),fun z hz=>key z (h.2.1 z hz)⟩
def Uo (nx:Bool) (X:Nat) (ny:Bool) (Y:Nat):Fx × Int :=
 if Y=0 then (⟨false,[],[]⟩,3)
 else
  let g:=JI 100000 X Y
  let t:=(dm (limbs X) g).1
  let b:=(dm (limbs Y) g).1
  if (limbs t).length > 32∨(limbs b).length > 32 then (⟨false,[],[]⟩,7) else (⟨decide (t≠0) && (nx != ny),limbs t,limbs b⟩,0)
def Cu (n:Bool) (X:Nat):Bool:=if X=0 then false else n
theorem GW (n:Bool) (X:Nat):sgn n (limbs X)=Cu n X:=by
 unfold sgn Cu;by_cases h:X=0
 ·subst h; rw [AC]; rfl
 ·rw [if_neg h,if_neg]
  intro e;exact h (Cj.1 (List.eq_nil_of_length_eq_zero e))
def QX (n:Fx):Bool :=
 if n.top.length > 32∨n.bot.length > 32 then false
 else ((Uo (Cu n.neg (AF n.top)) (AF n.top) false (AF n.bot)).2 == 0) && Ix n (Uo (Cu n.neg (AF n.top)) (AF n.top) false (AF n.bot)).1
def CW (p:Int→Bool):List Int→Nat→Int
 | [],_ => -1
 | z::zs,i=>if p z then i else CW p zs (i+1)
theorem NQ (p:Int→Bool):∀ (zs:List Int) (i:Nat),decide (CW p zs i ≥ 0)=zs.any p
 | [],_=>rfl
 | z::zs,i=>by
   simp only [CW,List.any_cons];by_cases h:p z=true
   ·simp [h]
   ·have:=NQ p zs (i+1)
    simp only [Bool.not_eq_true] at h;simp [h];simpa using this
def Bm:List Int→Int→Int
 | [],o=>o
 | z::zs,o=>if o * z > 2048 then 0 else Bm zs (o * z)
def Co (s:List Int):Int × Int :=
 if s.length > 6 then (0,7) else if s.any (·<0) then (0,3) else if s.any (· > 2048) then (0,7) else if s.any (fun z=>(0:Int) == z) then (0,0)
 else if Bm s 1=0 then (0,7) else (Bm s 1,0)
def chk:List Int→Bool→Bool→Option (Bool × Bool)
 | [],b,n=>some (b,n)
 | z::zs,b,n=>if z<0 then none else chk zs (b || decide (2048<z)) (n || z == 0)
def Uq:List Int→Int→Option Int
 | [],o=>some o
 | z::zs,o=>if o * z > 2048 then none else Uq zs (o * z)
def Aem:Option Int→Int × Int
 | none=>(0,7)
 | some o=>(o,0)
def Wk:Option (Bool × Bool)→Option Int→Int × Int
 | none,_=>(0,3)
 | some (true,_),_=>(0,7)
 | some (false,true),_=>(0,0)
 | some (false,false),m=>Aem m
def QY (s:List Int):Int × Int :=
 if s.length > 6 then (0,7) else Wk (chk s false false) (Uq s 1)
theorem AcU:∀ (s:List Int) (b n:Bool),chk s b n=if s.any (·<0) then none else some (b || s.any (· > 2048),n || s.any (fun z=>(0:Int) == z))
 | [],b,n=>by simp [chk]
 | z::s,b,n=>by
   simp only [chk,List.any_cons];by_cases h:z<0
   ·simp [h]
   ·have e:((0:Int) == z)=(z == 0):=by rw [Bool.eq_iff_iff]; simp; omega
    rw [if_neg h,AcU s,e]; simp [h,Bool.or_assoc]
theorem Aen:∀ (s:List Int) (o:Int),0<o→(∀ z ∈ s,0<z)→Uq s o=if Bm s o=0 then none else some (Bm s o)
 | [],o,h,_=>by
   have e:Bm [] o≠0:=by show o≠0; omega
   rw [if_neg e]; rfl
 | z::s,o,h,hz=>by
   simp only [Uq,Bm];split
   ·simp
   ·exact Aen s (o * z) (Int.mul_pos h (hz z (by simp))) (fun y hy=>hz y (by simp [hy]))
theorem Aeo (s:List Int):QY s=Co s:=by
 unfold QY Co;split
 ·rfl
 ·rw [AcU]
  by_cases h1:s.any (·<0)=true
  ·simp [h1,Wk]
  ·simp only [h1,Bool.false_eq_true,if_false,Bool.false_or]
   by_cases h2:s.any (· > 2048)=true
   ·simp [h2,Wk]
   ·simp only [h2,Bool.false_eq_true,if_false]
    by_cases h3:s.any (fun z=>(0:Int) == z)=true
    ·simp [h3,Wk]
    ·simp only [h3,Bool.false_eq_true,if_false]
     rw [Aen s 1 (by omega) (fun z hz=>by
      simp only [List.any_eq_true,not_exists,not_and] at h1 h3;have a:=h1 z hz; have b:=h3 z hz; simp at a b; omega)]
     by_cases h4:Bm s 1=0<;>simp [h4,Wk,Aem]
def Lj:List Int→List Int→Int→Option Int
 | n::s,i::at',o=>if i<0∨n≤i then none else Lj s at' (o * n+i)
 | _,_,o=>some o
def Small (s:List Int):Prop:=∀ z ∈ s,0≤z∧z≤2048
theorem Pu {s:List Int} (h1:s.any (·<0)=false) (h2:s.any (· > 2048)=false):Small s:=fun z hz=>by
 simp only [List.any_eq_false] at h1 h2;have a:=h1 z hz; have b:=h2 z hz; simp at a b; omega
theorem YB {s:List Int} {N:Bool} (h:chk s false false=some (false,N)):Small s:=by
 rw [AcU] at h;split at h
 ·cases h
 ·rename_i h1
  simp only [Bool.false_or,Option.some.injEq,Prod.mk.injEq] at h;exact Pu (by simpa using h1) h.1
theorem AU {α:Type} {zs:List α} {k:Nat} {z:α} (h:zs[k]? = some z):zs.drop k=z::zs.drop (k+1):=by
 obtain ⟨hk,rfl⟩:=List.getElem?_eq_some_iff.1 h;rw [List.drop_eq_getElem_cons hk]
theorem BO {α:Type} {zs:List α} {k:Nat} {z:α} (h:zs[k]? = some z):zs.take (k+1)=zs.take k++[z]:=by
 obtain ⟨hk,rfl⟩:=List.getElem?_eq_some_iff.1 h;rw [List.take_succ_eq_append_getElem hk]
theorem CF {s:List Int} (h:(Co s).2=0):s.length≤6:=by
 unfold Co at h;split at h
 ·simp at h
 ·omega
theorem BG {s:List Int} (h:(Co s).2=0):Small s:=by
 unfold Co at h;split at h
 ·simp at h
 ·split at h
  ·simp at h
  ·split at h
   ·simp at h
   ·exact Pu (by simpa using ‹¬ (s.any fun x=>decide (x<0))=true›) (by simpa using ‹¬ (s.any fun x=>decide (x > 2048))=true›)
theorem D1:∀ (l:List Int) (o:Int),0≤o→o≤2048→Small l→0≤Bm l o∧Bm l o≤2048
 | [],o,h0,h1,_=>⟨h0,h1⟩
 | z::l,o,h0,h1,hs=>by
   simp only [Bm];have hz:=hs z (by simp)
   have:=Int.mul_nonneg h0 hz.1
   split
   ·omega
   ·exact D1 l _ this (by omega) (fun y hy=>hs y (by simp [hy]))
theorem E6 (s:List Int):0≤(Co s).1∧(Co s).1≤2048:=by
 unfold Co;split
 ·simp
 ·split
  ·simp
  ·split
   ·simp
   ·split
    ·simp
    ·split
     ·simp
     ·exact D1 s 1 (by omega) (by omega) (Pu (by simpa using ‹¬ (s.any fun x=>decide (x<0))=true›) (by simpa using ‹¬ (s.any fun x=>decide (x > 2048))=true›))
def AA:List Int→Int
 | []=>1
 | z::zs=>z * AA zs
theorem Cq (a b:List Int):AA (a++b)=AA a * AA b:=by
 induction a with
 | nil=>simp [AA]
 | cons z a ih=>simp only [List.cons_append,AA,ih,Int.mul_assoc]
theorem Di:∀ (l:List Int),(∀ z ∈ l,0<z)→0<AA l
 | [],_=>by simp [AA]
 | z::l,h=>by simp only [AA]; exact Int.mul_pos (h z (by simp)) (Di l (fun y hy=>h y (by simp [hy])))
theorem Dx:∀ (l:List Int),(∀ z ∈ l,0≤z)→0≤AA l
 | [],_=>by simp [AA]
 | z::l,h=>by simp only [AA]; exact Int.mul_nonneg (h z (by simp)) (Dx l (fun y hy=>h y (by simp [hy])))
theorem Ur:∀ (l:List Int) (o:Int),0<o→(∀ z ∈ l,0<z)→Bm l o≠0→Bm l o=o * AA l
 | [],o,_,_,_=>by simp [Bm,AA]
 | z::l,o,ho,hp,h=>by
   simp only [Bm] at h ⊢;split at h
   ·exact absurd rfl h
   ·rename_i hb
    rw [if_neg hb,Ur l (o * z) (Int.mul_pos ho (hp z (by simp))) (fun y hy=>hp y (by simp [hy])) h,AA,Int.mul_assoc]
theorem JJ {l:List Int} (h:(0:Int) ∈ l):AA l=0:=by
 induction l with
 | nil=>simp at h
 | cons z l ih =>
   simp only [AA];rcases List.mem_cons.1 h with h|h
   ·rw [← h,Int.zero_mul]
   ·rw [ih h,Int.mul_zero]
theorem E7 {s:List Int} (h:(Co s).2=0):(Co s).1=AA s:=by
 have hs:=BG h;unfold Co at h ⊢;split at h
 ·simp at h
 ·rw [if_neg ‹_›]
  split at h
  ·simp at h
  ·rw [if_neg ‹_›]
   split at h
   ·simp at h
   ·rw [if_neg ‹_›]
    by_cases h0:s.any (fun z=>(0:Int) == z)=true
    ·rw [if_pos h0]
     obtain ⟨z,hz,e⟩:=List.any_eq_true.1 h0
     have:(0:Int)=z:=by simpa using e
     subst this;exact (JJ hz).symm
    ·rw [if_neg h0] at h ⊢
     by_cases hp:Bm s 1=0
     ·rw [if_pos hp] at h; simp at h
     ·rw [if_neg hp]
      show Bm s 1=AA s
      rw [Ur s 1 (by omega) (fun z hz=>by
       have a:=hs z hz
       have:z≠0:=fun e=>h0 (List.any_eq_true.2 ⟨z,hz,by simp [e]⟩)
       omega) hp,Int.one_mul]
theorem Xe:∀ (l:List Int),Small l→AA l≤2048 ^ l.length
 | [],_=>by simp [AA]
 | z::l,h=>by
   have hz:=h z (by simp);have ih:=Xe l (fun y hy=>h y (by simp [hy]));have h0:=Dx l (fun y hy=>(h y (by simp [hy])).1);simp only [AA,List.length_cons,Int.pow_succ]
   calc z * AA l≤2048 * AA l:=Int.mul_le_mul_of_nonneg_right hz.2 h0
    _≤2048 * 2048 ^ l.length:=Int.mul_le_mul_of_nonneg_left ih (by omega)
    _=_:=Int.mul_comm _ _
theorem Aka:∀ n:Nat,n≤5→(2048:Int) ^ n≤36028797018963968
 | 0,_=>by decide
 | 1,_=>by decide
 | 2,_=>by decide
 | 3,_=>by decide
 | 4,_=>by decide
 | 5,_=>by decide
 | n+6,h=>by omega
theorem AcV {s:List Int} (h:(Co s).2=0) (k:Nat):AA (s.take k)≤36028797018963968:=by
 have hl:=CF h;have hs:=BG h;by_cases hk:k<6
 ·have h1:=Xe (s.take k) (fun z hz=>hs z (List.mem_of_mem_take hz))
  have h2:(s.take k).length≤5:=by simp; omega
  have h3:=Aka _ h2;omega
 ·rw [List.take_of_length_le (by omega)]
  have:=E7 h
  have:=E6 s
  omega
theorem Ahr {s:List Int} {k:Nat} {z p y:Int} (hc:(Co s).2=0) (hz:s[k]? = some z) (hp0:0≤p) (hp:p<AA (s.take k)) (hy:0≤y) (hyz:y<z) :
 p * z+y<AA (s.take (k+1))∧0≤p * z∧p * z≤36028797018963968∧p * z+y≤36028797018963968:=by
 have hz0:0<z:=by omega
 have e:AA (s.take (k+1))=AA (s.take k) * z:=by rw [BO hz,Cq]; simp [AA]
 have hb:=AcV hc (k+1)
 have h1:p * z+z≤AA (s.take k) * z:=by
  have:(p+1) * z≤AA (s.take k) * z:=Int.mul_le_mul_of_nonneg_right (by omega) (by omega)
  rw [Int.add_mul,Int.one_mul] at this; exact this
 have h2:=Int.mul_nonneg hp0 (Int.le_of_lt hz0);omega
theorem Ahs (ys:List Int) (o:Int):Lj [] ys o=some o:=by simp [Lj]
def Aht:Option Int→Int × Bool
 | none=>(0,false)
 | some k=>(k,true)
def idx (s at':List Int):Int × Bool :=
 if (Co s).2≠0∨at'.length≠s.length then (0,false) else Aht (Lj s at' 0)
def AQ:List Int→Int→Int × List Int
 | [],n=>(n,[])
 | z::zs,n=>((AQ zs n).1 / z,((AQ zs n).1 % z)::(AQ zs n).2)
theorem Ch:∀ (s:List Int) (n:Int),(AQ s n).2.length=s.length
 | [],_=>rfl
 | z::zs,n=>by simp [AQ,Ch zs n]
theorem Akb (j:Nat) (ds:List Int) (v:Int):(List.replicate (j+1) 0++ds).set j v=List.replicate j 0++v::ds:=by
 rw [List.replicate_succ',List.append_assoc,List.set_append_right _ _ (by simp)]; simp
theorem Hl (n z p:Int) (hz:0<z) (hp:0<p):n % (z * p)=((n / p) % z) * p+n % p:=by
 have h1:=Int.mul_ediv_add_emod n p;have h2:=Int.mul_ediv_add_emod (n / p) z;have a1:=Int.emod_nonneg n (Int.ne_of_gt hp);have a2:=Int.emod_lt_of_pos n hp;have b1:=Int.emod_nonneg (n / p) (Int.ne_of_gt hz);have b2:=Int.emod_lt_of_pos (n / p) hz;generalize n % p=r at *;generalize n / p=q at *;generalize q % z=d at *;generalize q / z=t at *;have e:n=(d * p+r)+(z * p) * t:=by rw [← h1,← h2]; simp only [Int.mul_add]; ac_rfl
 have c1:0≤d * p+r:=by have:=Int.mul_nonneg b1 (Int.le_of_lt hp); omega
 have c2:d * p+r<z * p:=by
  have:(d+1) * p≤z * p:=Int.mul_le_mul_of_nonneg_right (by omega) (by omega)
  rw [Int.add_mul,Int.one_mul] at this;omega
 rw [e,Int.add_mul_emod_self_left];exact Int.emod_eq_of_lt c1 c2
theorem I5:∀ (s:List Int) (n:Int),(∀ z ∈ s,0<z)→(AQ s n).1=n / AA s
 | [],n,_=>by simp [AQ,AA]
 | z::s,n,h=>by
   have ih:=I5 s n (fun y hy=>h y (by simp [hy]));have hp:=Di s (fun y hy=>h y (by simp [hy]));simp only [AQ,ih,AA];rw [Int.ediv_ediv_of_nonneg (Int.le_of_lt hp),Int.mul_comm]
theorem GX:∀ (s:List Int) (n o:Int),(∀ z ∈ s,0<z)→Lj s (AQ s n).2 o=some (o * AA s+n % AA s)
 | [],n,o,_=>by simp [Lj,AA,Int.emod_one]
 | z::s,n,o,h=>by
   have hs:∀ y ∈ s,0<y:=fun y hy=>h y (by simp [hy]);have hp:=Di s hs;have hz:=h z (by simp);have h0:=Int.emod_nonneg (n / AA s) (Int.ne_of_gt hz);have h1:=Int.emod_lt_of_pos (n / AA s) hz;simp only [AQ,Lj,I5 s n hs,AA];rw [if_neg (by omega),GX s n _ hs,Hl n z _ hz hp];congr 1;simp only [Int.add_mul,Int.mul_assoc,Int.add_assoc]
theorem Pv:∀ (s:List Int) (m n:Int),(∀ z ∈ s,0<z)→m % AA s=n % AA s→(AQ s m).2=(AQ s n).2
 | [],_,_,_,_=>rfl
 | z::s,m,n,h,e=>by
   have hs:∀ y ∈ s,0<y:=fun y hy=>h y (by simp [hy]);have hp:=Di s hs;have hz:=h z (by simp);simp only [AA] at e;rw [Hl m z _ hz hp,Hl n z _ hz hp] at e;have m1:=Int.emod_nonneg m (Int.ne_of_gt hp);have m2:=Int.emod_lt_of_pos m hp;have n1:=Int.emod_nonneg n (Int.ne_of_gt hp);have n2:=Int.emod_lt_of_pos n hp
   have er:m % AA s=n % AA s:=by
    have:=congrArg (· % AA s) e
    simp only [Int.add_comm _ (m % AA s),Int.add_comm _ (n % AA s),Int.add_mul_emod_self_right] at this
    rwa [Int.emod_eq_of_lt m1 m2,Int.emod_eq_of_lt n1 n2] at this
   have eq':(m / AA s) % z=(n / AA s) % z:=by
    rw [er] at e;exact Int.eq_of_mul_eq_mul_right (Int.ne_of_gt hp) (by omega)
   simp only [AQ,I5 s _ hs,eq',Pv s m n hs er]
theorem Xf:∀ (s d:List Int) (o k:Int),d.length=s.length→Lj s d o=some k→∃ j,0≤j∧j<AA s∧k=o * AA s+j∧d=(AQ s j).2∧∀ z ∈ s,0<z
 | [],d,o,k,hl,h=>by
   have:d=[]:=List.eq_nil_of_length_eq_zero hl
   subst this;simp [Lj] at h;exact ⟨0,by omega,by simp [AA],by simp [AA,h],rfl,by simp⟩
 | z::s,[],o,k,hl,h=>by simp at hl
 | z::s,y::d,o,k,hl,h=>by
   simp only [Lj] at h;split at h
   ·cases h
   ·rename_i hy
    obtain ⟨j,j0,j1,jk,jd,js⟩:=Xf s d (o * z+y) k (by simpa using hl) h;have hz:0<z:=by omega
    have hp:=Di s js;have hy0:0≤y:=by omega
    have hy1:y<z:=by omega
    have c1:=Int.mul_nonneg hy0 (Int.le_of_lt hp)
    have c2:y * AA s+AA s≤z * AA s:=by
     have:(y+1) * AA s≤z * AA s:=Int.mul_le_mul_of_nonneg_right (by omega) (by omega)
     rw [Int.add_mul,Int.one_mul] at this; exact this
    have e1:(y * AA s+j) / AA s=y:=by
     rw [Int.add_comm,Int.add_mul_ediv_right _ _ (by omega),Int.ediv_eq_zero_of_lt j0 j1]; omega
    have e2:(y * AA s+j) % AA s=j:=by
     rw [Int.add_comm,Int.add_mul_emod_self_right,Int.emod_eq_of_lt j0 j1]
    refine ⟨y * AA s+j,by omega,by simp only [AA]; omega,?_,?_,?_⟩
    ·rw [jk,AA]; simp only [Int.add_mul,Int.mul_assoc,Int.add_assoc]
    ·have hd:(AQ s (y * AA s+j)).2=(AQ s j).2:=by
      have a:=GX s (y * AA s+j) 0 js;have b:=GX s j 0 js;exact Pv s _ _ js (by rw [e2,Int.emod_eq_of_lt j0 j1])
     simp only [AQ,I5 s _ js,e1,hd,← jd];rw [Int.emod_eq_of_lt hy0 hy1]
    ·intro x hx
     rcases List.mem_cons.1 hx with rfl|hx
     ·exact hz
     ·exact js x hx
theorem AaZ {s:List Int} {m n:Int} (h:∀ z ∈ s,0<z) (hm0:0≤m) (hm:m<AA s) (hn0:0≤n) (hn:n<AA s) (e:(AQ s m).2=(AQ s n).2):m=n:=by
 have a:=GX s m 0 h;have b:=GX s n 0 h;rw [e,b] at a;simp only [Int.zero_mul,Int.zero_add,Option.some.injEq] at a;rw [Int.emod_eq_of_lt hm0 hm,Int.emod_eq_of_lt hn0 hn] at a;exact a.symm
end Go.Proofs.YtjcolpcfcdkckaaGreat
