/- An empty list within a block of one's own. -/
import Derived.Test.YtjcolpcfcdkckaaGreatK06
set_option maxRecDepth 100000
namespace Go.Proofs.YtjcolpcfcdkckaaGreat
set_option linter.unusedVariables false
open Go.RowKit
theorem B8.setAt {E:CK} {w:World} {b:AV}:∀ {cs:List AV} {vs:List Value} {i:Nat} {a:AV},B8 E w cs vs→cs[i]? = some a→(∀ v,Rd E w a v→Rd E w b v)→B8 E w (cs.set i b) vs
 | [],_,_,_,_,h,_=>by simp at h
 | x::cs,vs,0,a,⟨v,rest,e,h1,h2⟩,h,hb=>by
   simp only [List.getElem?_cons_zero,Option.some.injEq] at h;subst h;exact ⟨v,rest,e,hb v h1,h2⟩
 | x::cs,vs,i+1,a,⟨v,rest,e,h1,h2⟩,h,hb=>⟨v,rest,e,h1,B8.setAt h2 (by simpa using h) hb⟩
section
variable {P:Program} {C:EH} {Q:Exit→St→Prop} {st:St}
theorem Aki {c:Bi} (j i:Nat) (e:TypeId) (sz:Nat) {o:OB} {row:List AV} (hj:hl st.h j=some o) (hr:o.row=false) (hes:o.es=[row]) (hi:row[i]? = some (.lit (.slice none 0 0)))
 (h:AW P C c Q ⟨st.t,(st.nx,some ⟨true,false,e,sz,[]⟩)::(j,some { o with es:=[row.set i (.own st.nx)] })::st.h,st.nx+1⟩) (hz:Nat.blt 0 o.sz=true:=by rfl):AW P C c Q st:=by
 refine DM (fun E a w R => ?_) h;have hid:¬ E.live st.nx:=fun hl=>absurd (R.nx _ hl) (Nat.lt_irrefl _);have hl0:=LO (V:=.slice none 0 0) (sz:=sz) hid;have hval:(BY E st.nx (.slice none 0 0) sz).val st.nx=.slice none 0 0:=by simp [BY]
 have hsz:(BY E st.nx (.slice none 0 0) sz).sz st.nx=sz:=by simp [BY]
 have hne:∀ k,E.live k→k≠st.nx:=fun k hk e=>hid (e ▸ hk)
 have hlv:∀ k,(BY E st.nx (.slice none 0 0) sz).live k→k≠st.nx→E.live k:=fun k hk h=>by
  rcases hk with hk|hk
  ·exact hk
  ·exact absurd hk h
 have hold:∀ k o',hl ((j,some { o with es:=[row.set i (.own st.nx)] })::st.h) k=some o'→∃ o0,hl st.h k=some o0∧o0.ro=o'.ro:=fun k o' hk=>by
  rcases B2 hk with ⟨rfl,e1⟩|⟨_,e1⟩
  ·simp only [Option.some.injEq] at e1
   subst e1;exact ⟨o,hj,rfl⟩
  ·exact ⟨o',e1,rfl⟩
 refine ⟨BY E st.nx (.slice none 0 0) sz,R.defers,R.size,fun k => ?_,⟨?_,?_,?_,R.heap.lt⟩,?_,?_,?_,R.imx,R.imn,R.frm⟩
 ·exact Rd.mono hl0 (fun b hb=>hb) (fun b _=>rfl) _ _ (R.tm k)
 ·intro k o' hk ho
  rcases B2 ho with ⟨rfl,e1⟩|⟨hkn,e1⟩
  ·simp only [Option.some.injEq] at e1
   subst e1;refine ⟨hsz,[],none,0,hval,?_,rfl,(fun u hu=>by cases hu),Nat.zero_le _⟩;rw [hval];exact ⟨by simp,.inl ⟨rfl,rfl⟩⟩
  ·have hlk:=hlv k hk hkn
   obtain ⟨k1,k2,k3⟩:=hl0 k hlk;rcases B2 e1 with ⟨rfl,e2⟩|⟨_,e2⟩
   ·simp only [Option.some.injEq] at e2
    subst e2;have hob:=(R.heap.ob k o hlk hj).mono ⟨k2,k3⟩ hl0 (fun b hb=>hb) (fun b _=>rfl) (fun b _=>rfl);obtain ⟨m1,m2⟩:=hob;rw [hr] at m2;have hpos:0<o.sz:=by simpa [Nat.blt_eq] using hz
    obtain ⟨g,vs,cs,p1,p2,p3,p4,p5,p6⟩:X4 _ _ _ _:=m2.elim (fun h=>h.2) (fun h=>absurd h.1 (by omega));rw [hes] at p3;simp only [List.cons.injEq,and_true] at p3;subst p3;refine ⟨m1,?_⟩;show cond o.row _ _;rw [hr];refine .inl ⟨hpos,g,vs,_,p1,p2,rfl,p4,B8.setAt p5 hi (fun v hv => ?_),p6⟩;have hv':v=.slice none 0 0:=hv;subst hv';exact ⟨.inr rfl,rfl,hval.symm⟩
   ·exact (R.heap.ob k o' hlk e2).mono ⟨k2,k3⟩ hl0 (fun b hb=>hb) (fun b _=>rfl) (fun b _=>rfl)
 ·intro k k' o o' b hk hk' ho ho' hb hb'
  by_cases h1:k=st.nx
  ·subst h1; rw [hval] at hb; cases hb
  by_cases h2:k'=st.nx
  ·subst h2; rw [hval] at hb'; cases hb'
  have l1:=hlv k hk h1;have l2:=hlv k' hk' h2;rw [(hl0 k l1).2.1] at hb;rw [(hl0 k' l2).2.1] at hb';rcases B2 ho with ⟨e1,_⟩|⟨_,e1⟩
  ·exact absurd e1 h1
  rcases B2 ho' with ⟨e2,_⟩|⟨_,e2⟩
  ·exact absurd e2 h2
  obtain ⟨o0,f1,_⟩:=hold k _ e1;obtain ⟨o1,f2,_⟩:=hold k' _ e2;exact R.heap.apart k k' o0 o1 b l1 l2 f1 f2 hb hb'
 ·intro k o b hk ho hb
  by_cases h1:k=st.nx
  ·subst h1; rw [hval] at hb; cases hb
  have l1:=hlv k hk h1;rw [(hl0 k l1).2.1] at hb;rcases B2 ho with ⟨e1,_⟩|⟨_,e1⟩
  ·exact absurd e1 h1
  obtain ⟨o0,f1,f2⟩:=hold k _ e1;rw [← f2];exact R.heap.im k o0 b l1 f1 hb
 ·intro k hk
  by_cases h1:k=st.nx
  ·subst h1; exact Nat.lt_succ_self _
  ·exact Nat.lt_succ_of_lt (R.nx k (hlv k hk h1))
 ·intro k o b hk ho hb
  by_cases h1:k=st.nx
  ·subst h1; rw [hval] at hb; cases hb
  have l1:=hlv k hk h1;rw [(hl0 k l1).2.1] at hb;rcases B2 ho with ⟨e1,_⟩|⟨_,e1⟩
  ·exact absurd e1 h1
  obtain ⟨o0,f1,_⟩:=hold k _ e1;exact R.own k o0 b l1 f1 hb
 ·intro k hk
  obtain ⟨k1,k2,k3⟩:=R.ext k hk;obtain ⟨j1,j2,j3⟩:=hl0 k k1;exact ⟨j1,by rw [j2]; exact k2,by rw [j3]; exact k3⟩
end
section
variable {P:Program} {st:St} {d:Option Nat} {g:Option (Nat × Bool)}
theorem AhI {sz:Nat} {x y:Operand} {id k:Nat} {ob:OB} (hg:BD st g) (hx:ev st x=.own id) (ho:hl st.h id=some ob) (hrow:ob.row=true) (hro:ob.ro=false) (hsz:ob.sz=sz) (hy:∃ kk,ev st y=.lit (.int kk k)) (hk:k≤ob.es.length) :
 BS P st ⟨⟨d,g,.slice sz x none (some y) none⟩,.own st.nx,[],[(st.nx,some ⟨true,false,ob.e,sz,ob.es.take k⟩),(id,none)],1⟩:=by
 intro N ops o hlow C E a w sx hN R hag hh hnw K Q hK;rw [if_pos (C2 hlow R hag hg)];obtain ⟨h1,h2,h3,h4⟩:=Bp hlow;obtain ⟨hnl,hnx⟩:=hnw 0 (Nat.lt_succ_self 0);obtain ⟨kk,hy⟩:=hy;have hsv:=Cv R hag (x:=x) (by simp [Ci.opds]);have hyv:=AX (Cv R hag (x:=y) (by simp [Ci.opds,oL])) hy;rw [hx] at hsv;obtain ⟨hl1,_,hsv⟩:=hsv;have ho':hl sx.h id=some ob:=by rw [hh id (.inr (by simp))]; exact ho
 obtain ⟨k1,k2⟩:=R.heap.ob id ob hl1 ho';rw [hrow] at k2;obtain ⟨vs,a0,cap,j1,j2,j3,j4,j5⟩:=k2;obtain ⟨dst,op,ty,pos,after,guard⟩:=o;obtain ⟨t,e,gg,rfl,het,hs⟩:=AL h3
 have hcapn:ob.es.length≤cap:=by
  rcases j2.2 with ⟨q1,q2⟩|⟨g',c',cur,q1,_,_,q3,_⟩
  ·omega
  ·rw [j1] at q1; simp only [Value.slice.injEq] at q1; omega
 have hrun:=HU (P:=P) (w:=w) (a:=a0) (len:=ob.es.length) (cap:=cap) (lo:=none) (hi:=some (.int kk k)) (mx:=none) (l:=0) (h:=k) (m:=cap) (Dt het) hs rfl ⟨kk,rfl⟩ rfl (Nat.zero_le _) (by omega) (by omega) (by simp)
 have ha0:(if cap=0 then a0 else a0.map (·.add (0 * sz)))=a0:=by
  split
  ·rfl
  ·cases a0 with
   | none=>rfl
   | some y =>
     rcases j2.2 with ⟨q1,q2⟩|⟨g',c',cur,q1,_,_,q3,_⟩
     ·rw [j1] at q1; simp at q1
     ·rw [j1] at q1; simp only [Value.slice.injEq,Option.some.injEq] at q1; rw [q1.1]; simp [CC]
 rw [ha0,Nat.sub_zero,Nat.sub_zero] at hrun;have hlen:(ob.es.take k).length=k:=by simp; omega
 unfold Oper.wp
 have hex:(execOp a.eval ⟨dst,.slice t x none (some y) none,ty,pos,after,guard⟩).run P w=.ok (.value (.slice a0 k cap)) w:=by
  simp only [execOp,hsv.trans j1,Option.map_none,Option.map_some,hyv,Sem.run_bind,hrun,Result.andThen_ok,Sem.run_pure]
 rw [hex,Oper.upon_value];rw [hsz] at j2 j3;have hvl:=j2.1;have hm:k * sz≤ob.es.length * sz:=Nat.mul_le_mul_right _ hk
 have hob:G6 (BY E st.nx (.slice a0 k cap) sz) w st.nx ⟨true,false,ob.e,sz,ob.es.take k⟩:=by
  refine ⟨by simp [BY],vs.take (k * sz),a0,cap,by simp [BY,hlen],?_,AZ.take k j3,fun u hu=>j4 u (List.mem_of_mem_take hu),by rw [hlen]; omega⟩;have hl2:(vs.take (k * sz)).length=(ob.es.take k).length * sz:=by rw [hlen,List.length_take,hvl]; exact Nat.min_eq_left hm
  refine ⟨hl2,?_⟩;rcases j2.2 with ⟨q1,q2⟩|⟨g',c',cur,q1,q0,q3,q4,q5,q6,q7⟩
  ·left
   have:k=0:=by omega
   rw [j1] at q1;simp only [Value.slice.injEq] at q1;refine ⟨by simp [BY,this,q1.1,q1.2.2],by rw [hlen]; exact this⟩
  ·right
   rw [j1] at q1;simp only [Value.slice.injEq] at q1;obtain ⟨rfl,_,rfl⟩:=q1;refine ⟨g',cap,cur,by simp [BY,hlen],q0,q3,by rw [hlen]; omega,q5,q6,?_⟩;show List.take ((ob.es.take k).length * sz) cur.toList=_;rw [hlen,← q7,List.take_take,Nat.min_eq_left hm]
 have hgr:w.grownBy w (Bz (E.val id)):=⟨rfl,rfl,rfl,Nat.le_refl _,fun _ _ _=>rfl⟩;have hR:=EP.new R hnl hnx (some id) (Bz (E.val id)) hgr (fun b hb'=>⟨id,ob,rfl,hl1,ho',hb',hro⟩) (V:=.slice a0 k cap) (ob:=⟨true,false,ob.e,sz,ob.es.take k⟩) hob rfl (fun b hb=>.inr (by rw [j1]; cases a0 with|none=>simp [Bz] at hb|some y=>simpa [Bz] using hb));refine hK _ w (BY E st.nx (.slice a0 k cap) sz) ?_ (fun id' hid=>Or.elim hid Or.inl (fun h=>.inr ⟨0,Nat.lt_succ_self 0,h⟩))
 have:=hR.put (d:=dst) (fun k hk=>by rw [hN]; exact h2 k hk) (v:=.own st.nx) (u:=.slice a0 k cap) ⟨.inr rfl,rfl,by simp [BY]⟩
 simp only [St.appx];rw [show d=dst from h1];exact this
end
section
variable {P:Program} {tt:List (Nat × AV)} {hh:Hp} {nn dd:Nat} {g:Option (Nat × Bool)} {l:List AG} {acc:List SD} {K:List SD→St→Prop}
theorem AhJ {sz:Nat} {x y:Operand} {id k:Nat} {ob:OB} (hk:k≤ob.es.length)
 (h:RG P (⟨⟨some dd,g,.slice sz x none (some y) none⟩,.own nn,[],[(nn,some ⟨true,false,ob.e,sz,ob.es.take k⟩),(id,none)],1⟩::acc) l ⟨(dd,.own nn)::tt,(nn,some ⟨true,false,ob.e,sz,ob.es.take k⟩)::(id,none)::hh,nn+1⟩ K)
 (hg:BD ⟨tt,hh,nn⟩ g:=by first|exact True.intro|rfl) (hx:ev ⟨tt,hh,nn⟩ x=.own id:=by rfl) (ho:hl hh id=some ob:=by rfl) (hrow:ob.row=true:=by rfl) (hro:ob.ro=false:=by rfl) (hsz:ob.sz=sz:=by rfl) (hy:∃ kk,ev ⟨tt,hh,nn⟩ y=.lit (.int kk k):=by exact ⟨_,rfl⟩) :
 RG P acc (⟨some dd,g,.slice sz x none (some y) none⟩::l) ⟨tt,hh,nn⟩ K:=RG.step (AhI hg hx ho hrow hro hsz hy hk) h
end
section
variable {P:Program} {C:EH} {Q:Exit→St→Prop} {st:St}
theorem Eu {c:Bi} (n:Nat) (v:AV) (e:st.get n=v) (h:AW P C c Q ⟨(n,v)::st.t,st.h,st.nx⟩):AW P C c Q st :=
 AcJ (b:=v) n e (fun E w u hu=>hu) h
theorem PE {c:Bi} (n j:Nat) {o:OB} (hj:st.get n=.own j) (ho:hl st.h j=some o) (hrow:o.row=true) (hro:o.ro=false)
 (h:AW P C c Q ⟨(n,.own st.nx)::st.t,(st.nx,some o)::(j,none)::st.h,st.nx+1⟩):AW P C c Q st:=by
 refine DM (fun E a w R => ?_) h;have hid:¬ E.live st.nx:=fun hl=>absurd (R.nx _ hl) (Nat.lt_irrefl _);have hv:=R.tm n;rw [hj] at hv;obtain ⟨hl1,h1c,hv⟩:=hv;have R1:EP C E ⟨st.t,st.h,st.nx+1⟩ a w:=R.congr (fun _=>rfl) (fun _=>rfl) (Nat.le_succ _);have hgr:w.grownBy w (Bz (E.val j)):=⟨rfl,rfl,rfl,Nat.le_refl _,fun _ _ _=>rfl⟩;obtain ⟨k1,k2⟩:=R.heap.ob j o hl1 ho;rw [hrow,cond_true] at k2;obtain ⟨vs,a0,cap,j1,j2,j3,j4,j5⟩:=k2
 have hob:G6 (BY E st.nx (E.val j) o.sz) w st.nx o:=by
  refine ⟨by simp [BY],?_⟩;rw [hrow,cond_true];exact ⟨vs,a0,cap,by simp [BY,j1],by simpa [BY] using j2,j3,j4,j5⟩
 have hR:=EP.new R1 hid (Nat.lt_succ_self _) (some j) (Bz (E.val j)) hgr (fun b hb'=>⟨j,o,rfl,hl1,ho,hb',hro⟩) hob hro (fun b hb=>.inr hb);refine ⟨BY E st.nx (E.val j) o.sz,hR.defers,hR.size,fun k => ?_,hR.heap,hR.nx,hR.own,hR.ext,hR.imx,hR.imn,hR.frm⟩;by_cases hk:k=n
 ·subst hk
  have e1:St.get ⟨(k,.own st.nx)::st.t,(st.nx,some o)::(j,none)::st.h,st.nx+1⟩ k=.own st.nx:=CL st.t k _;rw [e1];exact ⟨.inr rfl,h1c,by rw [hv]; simp [BY]⟩
 ·have e1:St.get ⟨(n,.own st.nx)::st.t,(st.nx,some o)::(j,none)::st.h,st.nx+1⟩ k=st.get k:=D7 st.t (some n) _ k (by simpa using fun h=>hk h.symm)
  rw [e1];exact hR.tm k
end
def PF:A6:=Kf ⟨37,[.t 8],So [Bx 4 68 3 0,Ii 8 (.mov (.const (.slice none 0 0)))] (Ss (So [Fa 9 2 4,Lf 10 9,Ii 11 (.un .not (Tt 10))] (Cd 11 (So [Mv 12 1,Fa 13 1 4,Lf 14 13,Mv 15 2,Mv 16 3,Bt 17 .mul 15 16,Mv 18 2,Mv 19 3,Bt 20 .mul 18 19,Mv 21 3,Bt 22 .add 20 21,Ii 23 (.slice 7 (Tt 14) (some (Tt 17)) (some (Tt 22)) none),Ii 24 (.append 43 7 104 Zc (Tt 12) (Tt 23)),Mv 8 24] .ret) .skip)) (Ss (So [Mv 25 3,Mn 26 0] (.block 0 (.loop (So [Bt 27 .lss 26 25] (Ss (Cd 27 .skip (.exit 0)) (Ss (.block 1 (Oo [Mv 28 1,Fa 29 1 4,Lf 30 29,Ii 31 (.iaddr 7 (Tt 30) (Nn 0)),Lt 32 7 31,Ii 33 (.rowlit 43 7 1 Zc [(0,Tt 32)]),Ii 34 (.append 43 7 104 Zc (Tt 28) (Tt 33)),Mv 1 34])) (Oo [Bk 35 .add 26 1,Mv 26 35]))))))) (So [Mv 36 1,Mv 8 36] .ret)))⟩
theorem GB:Ag Tryz.prog 120 = some PF:=by kernel_rfl
def N3:A6:=Kf ⟨64,[.t 4],So [Bx 2 70 7 0,Ii 4 (.mov (.const (.slice none 0 0)))] (So [Mv 14 1,Fa 15 6 2,Lf 16 15,Cc 17 83 [14,16],Mv 13 17,Ex 18 0 13,Ex 19 1 13,Ex 20 2 13,Ex 21 3 13,Mv 5 18,Mv 6 19,Mv 7 20,Mv 8 21] (Ss (.ops true [Fa 22 0 2,Fa 23 0 22,Lf 24 23,Fa 25 6 2,Lf 26 25,Ia 27 1 24 26,Lf 28 27,Mv 29 7,Bt 30 .mul 28 29,Fa 31 3 2,Fa 32 0 31,Lf 33 32,Fa 34 6 2,Lf 35 34,Ia 36 1 33 35,Lf 37 36,Mv 38 7,Bt 39 .mul 37 38,Mv 9 30,Mv 10 39] [(2,4),(2,11),(4,11),(5,11),(6,11),(2,13),(4,13),(5,13),(6,13),(11,13),(2,14),(4,14),(5,14),(6,14),(2,15),(4,15),(5,15),(6,15)]) (So [Mv 40 5,Mv 41 9,Mv 42 10,Bt 43 .add 41 42,Bt 44 .mul 40 43,Ii 45 (.make 43 7 104 Zc (Nn 0) (Tt 44)),Mv 11 45] (Ss (So [Mv 46 5,Mn 47 0] (.block 0 (.loop (So [Bt 48 .lss 47 46] (Ss (Cd 48 .skip (.exit 0)) (Ss (.block 1 (So [Mv 49 47,Mv 12 49] (So [Fa 50 0 2,Lt 51 3 50,Mv 52 11,Mv 53 12,Mv 54 9,Cc 55 120 [51,52,53,54],Mv 11 55] (Oo [Fa 56 3 2,Lt 57 3 56,Mv 58 11,Mv 59 12,Mv 60 10,Cc 61 120 [57,58,59,60],Mv 11 61])))) (Oo [Bk 62 .add 47 1,Mv 47 62]))))))) (So [Mv 63 11,Mv 4 63] .ret)))))⟩
theorem Lu:Ag Tryz.prog 56 = some N3:=by kernel_rfl
def N4:A6:=Kf ⟨67,[.t 2,.t 3],So [Bx 1 70 7 0,Ii 2 (.mov (.const (.slice none 0 0))),Mn 3 0] (Ss (So [Fa 10 0 1,Fa 11 0 10,Lf 12 11,Le 13 12,Mn 14 0] (.block 0 (.loop (So [Bt 15 .lss 14 13] (Ss (Cd 15 .skip (.exit 0)) (Ss (.block 1 (So [Mv 16 14,Ia 17 1 12 14,Lf 18 17,Mv 4 16,Mv 5 18] (So [Mv 19 4,Fa 20 6 1,Lf 21 20,Bt 22 .neq 19 21,Mv 23 22,Gg 23 true (Mv 24 5),Gg 23 true (Fa 25 3 1),Gg 23 true (Fa 26 0 25),Gg 23 true (Lf 27 26),Gg 23 true (Mv 28 4),Gg 23 true (Ia 29 1 27 28),Gg 23 true (Lf 30 29),Gg 23 true (Bt 31 .neq 24 30),Ii 32 (.pick (Tt 23) (Tt 31) (Bo false))] (Cd 32 (So [Ii 2 (.mov (.const (.slice none 0 0))),Mn 3 4] .ret) .skip)))) (Oo [Bk 33 .add 14 1,Mv 14 33]))))))) (Ss (.ops true [Fa 35 0 1,Fa 36 0 35,Lf 37 36,Fa 38 6 1,Lf 39 38,Fa 40 0 1,Fa 41 0 40,Lf 42 41,Fa 43 6 1,Lf 44 43,Ia 45 1 42 44,Lf 46 45,Fa 47 3 1,Fa 48 0 47,Lf 49 48,Fa 50 6 1,Lf 51 50,Ia 52 1 49 51,Lf 53 52,Bt 54 .add 46 53,Cc 55 119 [37,39,54],Mv 34 55,Ex 56 0 34,Ex 57 1 34,Mv 6 56,Mv 7 57] [(2,4),(2,7),(4,7),(2,9),(4,9),(7,9),(2,10),(4,10),(2,11),(4,11),(2,14),(4,14),(7,14),(9,14),(10,14),(11,14),(2,16),(4,16),(7,16),(9,16),(10,16),(11,16),(14,16),(2,17),(4,17),(7,17),(9,17),(10,17),(11,17),(2,18),(4,18),(7,18),(9,18),(10,18),(11,18)]) (Ss (So [Mv 59 6,Cc 60 49 [59],Mv 58 60,Ex 61 0 58,Ex 62 1 58,Mv 8 61,Mv 9 62] (So [Mv 63 9,Bk 64 .neq 63 0] (Cd 64 (So [Mv 65 9,Ii 2 (.mov (.const (.slice none 0 0))),Mv 3 65] .ret) .skip))) (So [Mv 66 6,Mv 2 66,Mn 3 0] .ret))))⟩
theorem Lv:Ag Tryz.prog 55 = some N4:=by kernel_rfl
def WE:A6:=Kf ⟨31,[.c 2 true 3],So [Bx 1 26 3 0,Ii 2 (.alloc 26 Za)] (So [Ii 8 (.rowlit 3 1 2 [.int .i64 0] [(0,Nn 1),(1,Nn 1)]),Mv 3 8] (Ss (So [Fa 9 1 1,Lf 10 9,Le 11 10,Bk 12 .gtr 11 0] (Cd 12 (So [Fa 14 1 1,Lf 15 14,Ca 16 83 [Tt 15,Nn 0],Mv 13 16,Ex 17 0 13,Ex 18 1 13,Ex 19 2 13,Ex 20 3 13,Mv 4 17,Mv 5 18,Mv 6 19,Mv 7 20] (Oo [Mv 21 5,Mv 22 6,Ii 23 (.rowlit 3 1 2 [.int .i64 0] [(0,Tt 21),(1,Tt 22)]),Mv 3 23])) .skip)) (Ss (.ops true [Fa 24 0 1,Lf 25 24,Mv 26 3,Fa 27 2 1,Lf 28 27,Ii 29 (.append 43 7 104 Zc (.const (.slice none 0 0)) (Tt 28)),Ii 30 (.build Za [(0,1,Tt 25),(1,1,Tt 26),(2,1,Tt 29)]),Sr 3 2 30] [(1,4),(1,5)]) .ret)))⟩
theorem Ke:Ag Tryz.prog 27 = some WE:=by kernel_rfl
def WF:A6:=Kf ⟨67,[.c 8 true 3,.t 9],So [Bx 4 26 3 0,Ii 8 (.alloc 68 [.slice none 0 0,.slice none 0 0,.bool false]),Ii 9 (.mov (Bo false))] (So [Mv 11 2,Ii 12 (.make 3 1 8 [.int .i64 0] (Nn 0) (Tt 11)),Mv 10 12] (Ss (So [Fa 13 1 4,Lf 14 13,Le 15 14] (.block 0 (So [Mv 17 2,Bt 18 .eql 15 17,Mv 16 18] (Cd 16 (Ss (.ops true [Mv 19 10,Fa 20 1 4,Lf 21 20,Ii 22 (.append 3 1 8 [.int .i64 0] (Tt 19) (Tt 21)),Fa 23 2 4,Lf 24 23,Ii 25 (.build [.slice none 0 0,.slice none 0 0,.bool false] [(0,1,Tt 22),(1,1,Tt 24)]),Sr 3 8 25,Ii 9 (.mov (Bo true))] [(2,5),(3,5)]) .ret) (So [Bk 27 .eql 15 0,Mv 26 27] (Cd 26 (Ss (So [Mv 28 1,Le 29 28,Bk 30 .eql 29 0] (Cd 30 (Oo [Mv 31 10,Ii 32 (.rowlit 3 1 1 [.int .i64 0] [(0,Nn 1)]),Ii 33 (.append 3 1 8 [.int .i64 0] (Tt 31) (Tt 32)),Mv 10 33]) (So [Mv 34 10,Mv 35 1,Ii 36 (.append 3 1 8 [.int .i64 0] (Tt 34) (Tt 35)),Mv 10 36] (Oo [Mv 37 10,Mv 38 3,Ia 39 1 37 38,Jj (.store 1 (Tt 39) (Nn 1))])))) (So [Mv 40 10,Fa 41 2 4,Lf 42 41,Ii 43 (.build [.slice none 0 0,.slice none 0 0,.bool false] [(0,1,Tt 40),(1,1,Tt 42),(2,1,Bo true)]),Sr 3 8 43,Ii 9 (.mov (Bo true))] .ret)) (So [Mv 45 2,Bk 46 .sub 45 1,Bt 47 .eql 15 46,Mv 44 47] (Cd 44 (So [Mv 48 10,Fa 49 1 4,Lf 50 49,Mv 51 3,Ii 52 (.slice 1 (Tt 50) none (some (Tt 51)) none),Ii 53 (.append 3 1 8 [.int .i64 0] (Tt 48) (Tt 52)),Mv 10 53] (So [Mv 54 10,Ii 55 (.rowlit 3 1 1 [.int .i64 0] [(0,Nn 1)]),Ii 56 (.append 3 1 8 [.int .i64 0] (Tt 54) (Tt 55)),Mv 10 56] (Ss (.ops true [Mv 57 10,Fa 58 1 4,Lf 59 58,Mv 60 3,Ii 61 (.slice 1 (Tt 59) (some (Tt 60)) none none),Ii 62 (.append 3 1 8 [.int .i64 0] (Tt 57) (Tt 61)),Fa 63 2 4,Lf 64 63,Ii 65 (.build [.slice none 0 0,.slice none 0 0,.bool false] [(0,1,Tt 62),(1,1,Tt 64)]),Sr 3 8 65,Ii 9 (.mov (Bo true))] [(2,7),(4,7),(5,7)]) .ret))) .skip)))))))) (So [Ii 66 (.build [.slice none 0 0,.slice none 0 0,.bool false] []),Sr 3 8 66,Ii 9 (.mov (Bo false))] .ret)))⟩
theorem DD:Ag Tryz.prog 118 = some WF:=by kernel_rfl
def PG:A6:=Kf ⟨24,[],So [Mv 6 0,Cc 7 64 [6],Mv 3 7] (So [Lf 8 1,Le 9 8,Mn 10 0] (.block 0 (.loop (So [Bt 11 .lss 10 9] (Ss (Cd 11 .skip (.exit 0)) (Ss (.block 1 (So [Mv 12 10,Ia 13 1 8 10,Lf 14 13,Mv 4 12,Mv 5 14] (Oo [Mv 15 0,Mv 16 4,Mv 17 3,Mv 18 5,Bk 19 .sub 18 1,Ia 20 1 17 19,Lf 21 20,Ia 22 1 15 16,Sr 1 22 21]))) (Oo [Bk 23 .add 10 1,Mv 10 23])))))))⟩
theorem GC:Ag Tryz.prog 63 = some PG:=by kernel_rfl
def PH:A6:=Kf ⟨14,[],.ops true [Mv 4 0,Lf 5 2,Lf 6 1,Bk 7 .sub 6 1,Mv 8 0,Lf 9 2,Ia 10 1 8 9,Lf 11 10,Bt 12 .sub 7 11,Ia 13 1 4 5,Sr 1 13 12] [(1,2),(1,5),(2,5),(1,6),(2,6),(1,7),(2,7)]⟩
theorem MR:Ag Tryz.prog 85 = some PH:=by kernel_rfl
def Ri:A6:=Kf ⟨16,[],.ops true [Mv 5 0,Lf 6 1,Mv 7 0,Lf 8 1,Ia 9 1 7 8,Lf 10 9,Lf 11 2,Bt 12 .add 10 11,Lf 13 3,Bt 14 .rem 12 13,Ia 15 1 5 6,Sr 1 15 14] [(1,3),(1,4),(1,5),(1,6),(3,6),(4,6),(5,6),(1,8),(3,8),(4,8),(5,8),(6,8)]⟩
theorem N5:Ag Tryz.prog 61 = some Ri:=by kernel_rfl
def MS:A6:=Kf ⟨4,[],Oo [Mv 2 0,Cc 3 87 [2]]⟩
theorem KC:Ag Tryz.prog 88 = some MS:=by kernel_rfl
def WG:A6:=Kf ⟨15,[.t 4,.t 5],So [Bx 2 26 3 0,Mn 4 0,Ii 5 (.mov (Bo false))] (Ss (So [Fa 6 1 2,Lf 7 6,Le 8 7,Bk 9 .eql 8 0] (Cd 9 (So [Mn 4 0,Ii 5 (.mov (Bo false))] .ret) .skip)) (Ss (So [Mv 10 1] (Cd 10 (So [Mn 4 0,Ii 5 (.mov (Bo true))] .ret) .skip)) (So [Fa 11 1 2,Lf 12 11,Le 13 12,Bk 14 .sub 13 1,Mv 4 14,Ii 5 (.mov (Bo true))] .ret)))⟩
theorem Kg:Ag Tryz.prog 59 = some WG:=by kernel_rfl
def WH:A6:=Kf ⟨54,[.c 6 true 3],So [Bx 3 26 3 0,Ii 6 (.alloc 26 Za)] (So [Fa 13 2 3,Lf 14 13,Le 15 14,Ii 16 (.make 43 7 104 Zc (Nn 0) (Tt 15)),Mv 7 16] (Ss (So [Fa 17 2 3,Lf 18 17,Le 19 18,Mn 20 0] (.block 0 (.loop (So [Bt 21 .lss 20 19] (Ss (Cd 21 .skip (.exit 0)) (Ss (.block 1 (So [Mv 22 20,Mv 8 22] (So [Mv 24 1,Mv 25 8,Cc 26 121 [24,25],Mv 23 26,Ex 27 0 23,Ex 28 1 23,Mv 9 27,Mv 10 28] (So [Mv 29 2,Mv 30 9,Ii 31 (.call (Tt 29) [Tt 30])] (So [Fa 33 1 3,Lf 34 33,Mv 35 9,Cc 36 122 [34,35],Mv 32 36,Ex 37 0 32,Ex 38 1 32,Mv 11 37,Mv 12 38] (Oo [Mv 39 7,Fa 40 2 3,Lf 41 40,Mv 42 11,Ia 43 7 41 42,Lt 44 7 43,Ii 45 (.rowlit 43 7 1 Zc [(0,Tt 44)]),Ii 46 (.append 43 7 104 Zc (Tt 39) (Tt 45)),Mv 7 46])))))) (Oo [Bk 47 .add 20 1,Mv 20 47]))))))) (Ss (.ops true [Fa 48 0 3,Lf 49 48,Mv 50 1,Cc 51 64 [50],Mv 52 7,Ii 53 (.build Za [(0,1,Tt 49),(1,1,Tt 51),(2,1,Tt 52)]),Sr 3 6 53] [(1,3)]) .ret)))⟩
theorem EE:Ag Tryz.prog 60 = some WH:=by kernel_rfl
abbrev Bd:List AV:=[.lit (.int .u64 0),.lit (.int .i64 0),.lit (.bool false),.lit (.slice none 0 0),.lit (.slice none 0 0),.lit (.int .i64 0),.lit (.slice none 0 0)]
def AS:Ah:=.mk 0 0 ⟨false,[],[]⟩ 0 []
theorem R3:∀ (s t:List Int) (n:Int),AQ (s++t) n=((AQ s (AQ t n).1).1,(AQ s (AQ t n).1).2++(AQ t n).2)
 | [],t,n=>by simp [AQ]
 | z::s,t,n=>by simp only [List.cons_append,AQ,R3 s t n]
theorem Cy (z:Int) (s:List Int):AA (z::s)=z * AA s:=rfl
section
variable {s1 s2:List Int} {L:Int}
end
theorem JM:∀ (l:List Int) (o:Int),Small l→(0:Int) ∈ l→Bm l o=0
 | [],o,_,h=>by simp at h
 | z::l,o,hs,h=>by
   simp only [Bm];split
   ·rfl
   ·rcases List.mem_cons.1 h with h|h
    ·subst h
     rw [Int.mul_zero]
     have:∀ (l:List Int),Bm l 0=0:=by
      intro l
      induction l with
      | nil=>rfl
      | cons y l ih=>simp only [Bm,Int.zero_mul]; simpa using ih
     exact this l
    ·exact JM l _ (fun y hy=>hs y (by simp [hy])) h
theorem AmM {r:List Int} (h:(Co r).2=0):Bm r 1=AA r:=by
 have hs:=BG h;by_cases h0:(0:Int) ∈ r
 ·rw [JM r 1 hs h0,JJ h0]
 ·have hpos:∀ z ∈ r,0<z:=fun z hz=>by
   have:=(hs z hz).1
   rcases Int.lt_or_eq_of_le this with h1|h1
   ·exact h1
   ·subst h1; exact absurd hz h0
  have hne:Bm r 1≠0:=by
   intro e;have h2:=Di r hpos;rw [← E7 h] at h2;unfold Co at h h2;split at h
   ·simp at h
   ·split at h
    ·simp at h
    ·split at h
     ·simp at h
     ·split at h
      ·rename_i hz; simp only [List.any_eq_true,beq_iff_eq] at hz; obtain ⟨z,hz,e'⟩:=hz; subst e'; exact h0 hz
      ·simp at h
  rw [Ur r 1 (by omega) hpos hne,Int.one_mul]
def HN (s:List Int) (x:Nat):List Int:=s.take x++s.drop (x+1)
theorem Abh (s:List Int) (x j:Nat) (hj:j≠x) (hx:x<s.length):s[j]? = (HN s x)[if j<x then j else j - 1]? := by
 unfold HN;by_cases h:j<x
 ·rw [if_pos h,List.getElem?_append_left (by simp; omega),List.getElem?_take,if_pos h]
 ·rw [if_neg h,List.getElem?_append_right (by simp; omega),List.getElem?_drop]
  congr 1;simp;omega
theorem Akj {s t:List Int} {x:Nat} (hl:s.length=t.length) (hx:x<s.length):HN s x=HN t x↔∀ j,j≠x→s[j]? = t[j]? := by
 constructor
 ·intro h j hj
  rw [Abh s x j hj hx,Abh t x j hj (by omega),h]
 ·intro h
  unfold HN;congr 1
  ·apply List.ext_getElem?
   intro i;rw [List.getElem?_take,List.getElem?_take];split
   ·exact h i (by omega)
   ·rfl
  ·apply List.ext_getElem?
   intro i;rw [List.getElem?_drop,List.getElem?_drop];exact h _ (by omega)
def MT (al:Bool) (cs:List Ah) (i n:Nat):List Ah:=if al then List.replicate n (cs.getD 0 AS) else (cs.drop (i * n)).take n
def Abi (al:Bool) (cs:List Ah) (k:Nat):Ah:=cs.getD (if al then 0 else k) AS
theorem Abj (al:Bool) (cs:List Ah) (i n:Nat) (h:al=false→i * n+n≤cs.length):MT al cs i n=(List.range n).map fun r=>Abi al cs (i * n+r):=by
 unfold MT Abi;cases al
 ·simp only [Bool.false_eq_true,if_false]
  have h:=h rfl;apply List.ext_getElem
  ·simp; omega
  ·intro k h1 h2
   simp only [List.length_map,List.length_range] at h2;rw [List.getElem_take,List.getElem_drop,List.getElem_map,List.getElem_range];rw [List.getD_eq_getElem?_getD,List.getElem?_eq_getElem (by omega)];rfl
 ·simp only [if_true]
  apply List.ext_getElem
  ·simp
  ·intro k h1 h2
   simp
def AhK (n1 n2:Nat) (a1:Bool) (c1:List Ah) (a2:Bool) (c2:List Ah) (p:Nat):Ah :=
 if p % (n1+n2)<n1 then Abi a1 c1 (p / (n1+n2) * n1+p % (n1+n2)) else Abi a2 c2 (p / (n1+n2) * n2+(p % (n1+n2) - n1))
def IE (n1 n2:Nat) (a1:Bool) (c1:List Ah) (a2:Bool) (c2:List Ah) (m:Nat):List Ah:=(List.range m).map (AhK n1 n2 a1 c1 a2 c2)
theorem PI (n1 n2:Nat) (a1:Bool) (c1:List Ah) (a2:Bool) (c2:List Ah) (m:Nat):(IE n1 n2 a1 c1 a2 c2 m).length=m:=by simp [IE]
theorem Xl (n1 n2:Nat) (a1:Bool) (c1:List Ah) (a2:Bool) (c2:List Ah) (i:Nat) (h1:a1=false→i * n1+n1≤c1.length) (h2:a2=false→i * n2+n2≤c2.length) :
 IE n1 n2 a1 c1 a2 c2 (i * (n1+n2))++MT a1 c1 i n1++MT a2 c2 i n2=IE n1 n2 a1 c1 a2 c2 ((i+1) * (n1+n2)):=by
 rw [Abj a1 c1 i n1 h1,Abj a2 c2 i n2 h2];unfold IE;rw [Nat.add_mul,Nat.one_mul,List.range_add,List.map_append,List.append_assoc];congr 1;rw [List.range_add,List.map_append,List.map_append];congr 1
 ·rw [List.map_map]
  apply List.map_congr_left;intro r hr;rw [List.mem_range] at hr;have e1:(i * (n1+n2)+r) % (n1+n2)=r:=by rw [Nat.add_comm,Nat.add_mul_mod_self_right,Nat.mod_eq_of_lt (by omega)]
  have e2:(i * (n1+n2)+r) / (n1+n2)=i:=by rw [Nat.add_comm,Nat.add_mul_div_right _ _ (by omega),Nat.div_eq_of_lt (by omega),Nat.zero_add]
  simp only [Function.comp,AhK,e1,e2,if_pos hr]
 ·rw [List.map_map,List.map_map]
  apply List.map_congr_left;intro r hr;rw [List.mem_range] at hr;have e1:(i * (n1+n2)+(n1+r)) % (n1+n2)=n1+r:=by rw [Nat.add_comm,Nat.add_mul_mod_self_right,Nat.mod_eq_of_lt (by omega)]
  have e2:(i * (n1+n2)+(n1+r)) / (n1+n2)=i:=by rw [Nat.add_comm,Nat.add_mul_div_right _ _ (by omega),Nat.div_eq_of_lt (by omega),Nat.zero_add]
  simp only [Function.comp,AhK,e1,e2,if_neg (show ¬ n1+r<n1 by omega),Nat.add_sub_cancel_left]
def BB (k:Nat):Int:=4294967296 ^ k
theorem JN:BB 0=1:=rfl
theorem BX (k:Nat):BB (k+1)=BB k * 4294967296:=Int.pow_succ ..
theorem EL (k:Nat):0<BB k:=Int.pow_pos (by omega)
theorem UP (a b:Nat):BB (a+b)=BB a * BB b:=Int.pow_add ..
theorem YX {a b:Nat} (h:a≤b):BB a≤BB b:=by
 obtain ⟨c,rfl⟩:=Nat.exists_eq_add_of_le h;rw [UP];have h1:=EL a;have h2:=EL c
 have:=Int.mul_le_mul_of_nonneg_left (show (1:Int)≤BB c by omega) (Int.le_of_lt h1)
 omega
def vI:List Int→Int
 | []=>0
 | z::zs=>z+4294967296 * vI zs
theorem Ac4:∀ {xs:List Int},AD xs→vI xs=(AF xs:Int)
 | [],_=>rfl
 | z::zs,h=>by
   have:=Ac4 h.tail
   simp only [List.tail_cons] at this;have hz:=h z (by simp);simp only [vI,AF,this];omega
theorem EV:∀ (xs ys:List Int),vI (xs++ys)=vI xs+BB xs.length * vI ys
 | [],ys=>by simp [vI,JN]
 | z::zs,ys=>by
   simp only [List.cons_append,vI,EV zs ys,List.length_cons,BX]
   grind
theorem DR (xs:List Int) (v:Int):vI (xs++[v])=vI xs+BB xs.length * v:=by rw [EV]; simp [vI]
theorem AD.app {xs ys:List Int} (h:AD xs) (k:AD ys):AD (xs++ys):=fun z hz=>by
 rcases List.mem_append.1 hz with hz|hz
 ·exact h z hz
 ·exact k z hz
theorem AD.snoc {xs:List Int} (h:AD xs) {v:Int} (h0:0≤v) (h1:v<4294967296):AD (xs++[v]):=h.app (fun z hz=>by obtain rfl:=List.mem_singleton.1 hz; exact ⟨h0,h1⟩)
theorem AD.take {xs:List Int} (h:AD xs) (k:Nat):AD (xs.take k):=fun z hz=>h z (List.mem_of_mem_take hz)
theorem AD.at {xs:List Int} (h:AD xs) {k:Nat} {z:Int} (hz:xs[k]? = some z):0≤z∧z<4294967296:=h z (List.mem_of_getElem? hz)
theorem AD.nil:AD []:=fun z hz=>by cases hz
theorem AD.rep (n:Nat):AD (List.replicate n 0):=fun z hz=>by rw [List.eq_of_mem_replicate hz]; omega
theorem BM:∀ {xs:List Int},AD xs→0≤vI xs
 | [],_=>Int.le_refl _
 | z::zs,h=>by
   have:=BM h.tail
   have hz:=h z (by simp);simp only [List.tail_cons] at this;simp only [vI]; omega
theorem Hr:∀ {xs:List Int},AD xs→vI xs<BB xs.length
 | [],_=>by simp [vI,JN]
 | z::zs,h=>by
   have:=Hr h.tail
   have hz:=h z (by simp);simp only [List.tail_cons] at this;simp only [vI,List.length_cons,BX]; omega
theorem AhL (n:Nat):vI (List.replicate n 0)=0:=by
 induction n with
 | zero=>rfl
 | succ n ih=>simp only [List.replicate_succ,vI,ih]; rfl
theorem A7 {xs:List Int} {k:Nat} {z:Int} (h:xs[k]? = some z):vI (xs.take (k+1))=vI (xs.take k)+BB k * z:=by
 obtain ⟨hk,rfl⟩:=List.getElem?_eq_some_iff.1 h;rw [List.take_succ_eq_append_getElem hk,DR,List.length_take,Nat.min_eq_left (Nat.le_of_lt hk)]
theorem Ev (xs:List Int) {k:Nat} (h:k≤xs.length):vI xs=vI (xs.take k)+BB k * vI (xs.drop k):=by
 have:=EV (xs.take k) (xs.drop k)
 rwa [List.take_append_drop,List.length_take,Nat.min_eq_left h] at this
theorem B1 (n:Nat):vI (limbs n)=n:=by rw [Ac4 (Ar n),Aq]
theorem Fe {V:Nat} {k:Nat} (h:(V:Int)<BB k):(limbs V).length≤k:=by
 induction k generalizing V with
 | zero =>
   rw [JN] at h; obtain rfl:V=0:=by omega
   rw [AC]; simp
 | succ k ih =>
   by_cases h0:V=0
   ·subst h0; rw [AC]; simp
   ·rw [Bf h0,List.length_cons]
    have:=ih (V:=V / 4294967296) (by rw [BX] at h; omega)
    omega
theorem YY {V:Nat} {k:Nat} (h:BB k≤(V:Int)):k<(limbs V).length:=by
 induction k generalizing V with
 | zero=>rw [JN] at h; rw [Bf (by omega)]; simp
 | succ k ih =>
   rw [BX] at h;have h1:=EL k;rw [Bf (by omega),List.length_cons]
   have:=ih (V:=V / 4294967296) (by omega)
   omega
theorem I9 (V:Nat):(V:Int)<BB (limbs V).length:=by
 have:=Hr (Ar V)
 rwa [B1] at this
theorem Abk {V:Nat} (h:V≠0):BB ((limbs V).length - 1)≤(V:Int):=by
 refine Int.not_lt.1 fun hl => ?_
 have:=Fe hl
 have:0<(limbs V).length:=by rw [Bf h]; simp
 omega
theorem Ac5:∀ {xs ys:List Int},AD xs→AD ys→xs.length=ys.length→vI xs=vI ys→xs=ys
 | [],[],_,_,_,_=>rfl
 | x::xs,y::ys,hx,hy,hl,h=>by
   have h1:=hx x (by simp);have h2:=hy y (by simp);simp only [vI] at h;have e:x=y:=by omega
   have e2:vI xs=vI ys:=by omega
   have e3:xs=ys:=Ac5 (xs:=xs) (ys:=ys) hx.tail hy.tail (by simpa using hl) e2;rw [e,e3]
theorem UQ {xs:List Int} {V:Nat} (h:AD xs) (hv:vI xs=V) (ht:xs.length=0∨BB (xs.length - 1)≤(V:Int)):xs=limbs V:=by
 have hl:xs.length=(limbs V).length:=by
  rcases ht with ht|ht
  ·have:xs=[]:=List.eq_nil_of_length_eq_zero ht
   subst this
   have:V=0:=by simp only [vI] at hv; omega
   subst this;rw [AC]
  ·have h1:=YY ht
   have h2:=Hr h;rw [hv] at h2;have h3:=Fe h2;omega
 exact Ac5 h (Ar V) hl (by rw [hv,B1])
theorem F6 {xs:List Int} {V:Nat} (h:AD xs) (hv:vI xs=V):CJ xs=limbs V:=by
 rw [A0 h];congr 1
 have:=Ac4 h
 omega
theorem N6 {r xs:List Int} {k:Nat} (hr:r.length=k):(r++xs.drop k)[k]? = xs[k]? := by
 rw [List.getElem?_append_right (by omega),List.getElem?_drop];congr 1; omega
theorem JO {r xs:List Int} {k:Nat} (hr:r.length=k) (hk:k<xs.length) (v:Int):(r++xs.drop k).set k v=(r++[v])++xs.drop (k+1):=by
 rw [List.set_append_right _ _ (by omega),hr,Nat.sub_self,List.drop_eq_getElem_cons hk,List.set_cons_zero,List.append_assoc];rfl
theorem LX {r xs:List Int} {k:Nat} (hr:r.length=k) (hk:k≤xs.length):(r++xs.drop k).length=xs.length:=by
 rw [List.length_append,List.length_drop,hr]; omega
theorem YZ {r xs:List Int} {k:Nat} (hk:k<xs.length):(xs.take (k+1)++r)[k]? = xs[k]? := by
 rw [List.getElem?_append_left (by rw [List.length_take]; omega),List.getElem?_take,if_pos (by omega)]
theorem UR {r xs:List Int} {k:Nat} (hk:k<xs.length) (v:Int):(xs.take (k+1)++r).set k v=xs.take k++(v::r):=by
 rw [List.take_succ_eq_append_getElem hk,List.append_assoc,List.set_append_right _ _ (by rw [List.length_take]; omega),List.length_take,Nat.min_eq_left (by omega),Nat.sub_self];rfl
theorem US {r xs:List Int} {k:Nat} (hr:r.length+k=xs.length):(xs.take k++r).length=xs.length:=by
 rw [List.length_append,List.length_take]; omega
theorem N7 (k:IntKind) (s:List Int) (n:Nat):(Ab k s).take n=Ab k (s.take n):=by simp [Ab,List.map_take]
theorem Ac6 (k:IntKind) (s:List Int) (n:Nat):(Ab k s).drop n=Ab k (s.drop n):=by simp [Ab,List.map_drop]
theorem Bu (k:IntKind) (s:List Int) (i:Nat) (z:Int):(Ab k s).set i [.lit (.int k z)]=Ab k (s.set i z):=by simp [Ab,List.map_set]
theorem GY (k:IntKind) (n:Nat) (z:Int):List.replicate n [AV.lit (.int k z)]=Ab k (List.replicate n z):=by simp [Ab]
theorem UT {p:Int→Bool} {s:List Int} {k:Nat} {z:Int} (h:s[k]? = some z):CW p (s.drop k) k=if p z then (k:Int) else CW p (s.drop (k+1)) (k+1):=by
 rw [AU h,CW]
theorem Abl (f:FuncId) (p:Int→Bool) (hf:∀ z:Int,Ae Tryz.prog f [.lit (.int .i64 z)] (.lit (.bool (p z)))) (s:List Int) (hl:s.length≤A2):Ae Tryz.prog 164 [.sl 1 (Ab .i64 s),.fn f [] []] (.lit (.int .i64 (CW p s 0))):=by
 have hB:A2=1000000000:=rfl;have ls:=Ac .i64 s;refine Aa HL fun C hC => ?_;refine Af ?_;refine Ai [0,1,4,6,7] [] (fun k:Nat=>[(8,.lit (.int .i64 k))]) (fun _=>[]) 0 (fun k=>k≤s.length∧CW p s 0=CW p (s.drop k) k) (fun k=>s.length - k) 0 ⟨Nat.zero_le _,rfl⟩ ?_;rintro k ⟨hk,hE⟩;dsimp only [List.cons_append,List.nil_append];generalize CW p s 0=G at hE ⊢;by_cases hlt:k<s.length
 ·obtain ⟨z,hz⟩:∃ z,s[k]? = some z:=⟨_,List.getElem?_eq_getElem hlt⟩
  have hzk:=Az (k:=.i64) hz;have c1:=hf z;rw [UT hz] at hE;cases hp:p z
  ·rw [hp] at c1 hE
   refine Af ?_;exact ⟨k+1,by omega,⟨by omega,hE⟩,BI hC.m []⟩
  ·rw [hp] at c1 hE
   simp only [if_true] at hE;rw [hE];refine Af ?_;exact Am
 ·rw [List.drop_eq_nil_of_le (by omega),CW] at hE
  rw [hE];refine Af ?_;exact Am
theorem Akk (x:Int) (s:List Int) (hl:s.length≤A2):Ae Tryz.prog 165 [.sl 1 (Ab .i64 s),.lit (.int .i64 x)] (.lit (.int .i64 (CW (fun z=>x == z) s 0))):=by
 have hB:A2=1000000000:=rfl;have ls:=Ac .i64 s;refine Aa Kw fun C hC => ?_;refine Af ?_;refine Ai [0,1,4,6,7] [] (fun k:Nat=>[(8,.lit (.int .i64 k))]) (fun _=>[]) 0 (fun k=>k≤s.length∧CW (fun z=>x == z) s 0=CW (fun z=>x == z) (s.drop k) k) (fun k=>s.length - k) 0 ⟨Nat.zero_le _,rfl⟩ ?_;rintro k ⟨hk,hE⟩;dsimp only [List.cons_append,List.nil_append];generalize CW (fun z=>x == z) s 0=G at hE ⊢;by_cases hlt:k<s.length
 ·obtain ⟨z,hz⟩:∃ z,s[k]? = some z:=⟨_,List.getElem?_eq_getElem hlt⟩
  have hzk:=Az (k:=.i64) hz;rw [UT hz] at hE;by_cases hp:x=z
  ·rw [if_pos (by simpa using hp)] at hE
   rw [hE];refine Af ?_;exact Am
  ·rw [if_neg (by simpa using hp)] at hE
   refine Af ?_;exact ⟨k+1,by omega,⟨by omega,hE⟩,BI hC.m []⟩
 ·rw [List.drop_eq_nil_of_le (by omega),CW] at hE
  rw [hE];refine Af ?_;exact Am
theorem Hs (f:FuncId) (p:Int→Bool) (hf:∀ z:Int,Ae Tryz.prog f [.lit (.int .i64 z)] (.lit (.bool (p z)))) (s:List Int) (hl:s.length≤A2):Ae Tryz.prog 112 [.sl 1 (Ab .i64 s),.fn f [] []] (.lit (.bool (s.any p))):=by
 have c1:=Abl f p hf s hl;refine Aa Gj fun C hC => ?_;rw [← NQ p s 0];by_cases h:CW p s 0 ≥ 0
 ·rw [decide_eq_true h]
  refine Af ?_;exact Am
 ·rw [decide_eq_false h]
  refine Af ?_;exact Am
theorem Ac7 (x:Int) (s:List Int) (hl:s.length≤A2):Ae Tryz.prog 115 [.sl 1 (Ab .i64 s),.lit (.int .i64 x)] (.lit (.bool (s.any fun z=>x == z))):=by
 have c1:=Akk x s hl;refine Aa Iu fun C hC => ?_;rw [← NQ _ s 0];by_cases h:CW (fun z=>x == z) s 0 ≥ 0
 ·rw [decide_eq_true h]
  refine Af ?_;exact Am
 ·rw [decide_eq_false h]
  refine Af ?_;exact Am
theorem Am6 (z:Int):Ae Tryz.prog 113 [.lit (.int .i64 z)] (.lit (.bool (decide (z<0)))):=by
 refine Aa NF fun C hC => ?_;by_cases h:z<0
 ·rw [decide_eq_true h]
  refine Af ?_;exact Am
 ·rw [decide_eq_false h]
  refine Af ?_;exact Am
theorem Akl (z:Int):Ae Tryz.prog 114 [.lit (.int .i64 z)] (.lit (.bool (decide (z > 2048)))):=by
 refine Aa NG fun C hC => ?_;by_cases h:z > 2048
 ·rw [decide_eq_true h]
  refine Af ?_;exact Am
 ·rw [decide_eq_false h]
  refine Af ?_;exact Am
theorem AhM {s:List Int} {k:Nat} {z:Int} (h:s[k]? = some z) (o:Int):Bm (s.drop k) o=if o * z > 2048 then 0 else Bm (s.drop (k+1)) (o * z):=by
 rw [AU h,Bm]
theorem Rj (s:List Int) (hs:Small s) (hl:s.length≤A2):Ae Tryz.prog 116 [.sl 1 (Ab .i64 s)] (.lit (.int .i64 (Bm s 1))):=by
 have hB:A2=1000000000:=rfl;have ls:=Ac .i64 s;refine Aa NH fun C hC => ?_;refine Af ?_;refine Ai [0,2,6,7] [] (fun p:Nat × Int=>[(3,.lit (.int .i64 p.2)),(8,.lit (.int .i64 p.1))]) (fun _=>[]) 0 (fun p=>p.1≤s.length∧0≤p.2∧p.2≤2048∧Bm s 1=Bm (s.drop p.1) p.2) (fun p=>s.length - p.1) (0,1) ⟨Nat.zero_le _,by simp only; omega,by simp only; omega,rfl⟩ ?_;rintro ⟨k,o⟩ ⟨hk,o0,o1,hE⟩;simp only at hk o0 o1 hE;dsimp only [List.cons_append,List.nil_append];generalize Bm s 1=G at hE ⊢;by_cases hlt:k<s.length
 ·obtain ⟨z,hz⟩:∃ z,s[k]? = some z:=⟨_,List.getElem?_eq_getElem hlt⟩
  have hzk:=Az (k:=.i64) hz;have hzr:=hs z (List.mem_of_getElem? hz);rw [AhM hz] at hE;have m0:0≤o * z:=Int.mul_nonneg o0 hzr.1;have m1:o * z≤2048 * 2048:=Int.mul_le_mul o1 hzr.2 hzr.1 (by omega);have hm : -9223372036854775808≤o * z∧o * z≤9223372036854775807:=by omega
  by_cases hg:o * z > 2048
  ·rw [if_pos hg] at hE
   rw [hE];refine Af ?_;exact Am
  ·rw [if_neg hg] at hE
   refine Af ?_;exact ⟨(k+1,o * z),by simp only; omega,⟨by simp only; omega,m0,by simp only; omega,hE⟩,BI hC.m []⟩
 ·rw [List.drop_eq_nil_of_le (by omega),Bm] at hE
  rw [hE];refine Af ?_;exact Am
theorem FT (s:List Int):Ae Tryz.prog 49 [.sl 1 (Ab .i64 s)] (.tup [.lit (.int .i64 (Co s).1),.lit (.int .i64 (Co s).2)]):=by
 have hB:A2=1000000000:=rfl;have ls:=Ac .i64 s;refine Aa QK fun C hC => ?_;unfold Co;by_cases h6:s.length > 6
 ·rw [if_pos h6]
  refine Af ?_;exact Am
 rw [if_neg h6];have c1:=Hs 113 (fun z=>decide (z<0)) Am6 s (by omega);have c2:=Hs 114 (fun z=>decide (z > 2048)) Akl s (by omega);have c3:=Ac7 0 s (by omega);cases h1:s.any (fun z=>decide (z<0))<;>rw [h1] at c1
 ·rw [if_neg (by simp)]
  cases h2:s.any (fun z=>decide (z > 2048))<;>rw [h2] at c2
  ·rw [if_neg (by simp)]
   have c4:=Rj s (Pu h1 h2) (by omega);cases h3:s.any (fun z=>(0:Int) == z)<;>rw [h3] at c3
   ·rw [if_neg (by simp)]
    by_cases h4:Bm s 1=0
    ·rw [if_pos h4]
     refine Af ?_;exact Am
    ·rw [if_neg h4]
     refine Af ?_;exact Am
   ·rw [if_pos rfl]
    refine Af ?_;exact Am
  ·rw [if_pos rfl]
   refine Af ?_;exact Am
 ·rw [if_pos rfl]
  refine Af ?_;exact Am
theorem N8 (es:List (List AV)) (hn:0<es.length) (hb:es.length≤100000000000):Dn Tryz.prog 64 [.sl 1 es] [] 0 (.own 0) [(0,some ⟨true,false,3,1,es⟩)] 1:=by
 have hu := Tryz.underlying23;refine BK CU fun C hC => ?_;refine Af ?_;exact BZ [(0,1)]
theorem Akm {s d:List Int} {k:Nat} {z y:Int} (h:s[k]? = some z) (h':d[k]? = some y) (o:Int):Lj (s.drop k) (d.drop k) o=if y<0∨z≤y then none else Lj (s.drop (k+1)) (d.drop (k+1)) (o * z+y):=by
 rw [AU h,AU h',Lj]
theorem Ja (s d:List Int) (ld:d.length≤A2) (ls0:s.length≤A2):Ae Tryz.prog 122 [.sl 1 (Ab .i64 s),.sl 1 (Ab .i64 d)] (.tup [.lit (.int .i64 (idx s d).1),.lit (.bool (idx s d).2)]):=by
 have hB:A2=1000000000:=rfl;have ls:=Ac .i64 s;have ldd:=Ac .i64 d;have c1:=FT s;refine Aa QN fun C hC => ?_;unfold idx;by_cases h1:(Co s).2=0
 ·by_cases h2:d.length=s.length
  ·rw [if_neg (by simp [h1,h2])]
   rw [h1] at c1;refine Af ?_
   refine Ai [0,1,4,5,25,26] [] (fun p:Nat × Int=>[(8,.lit (.int .i64 p.2)),(27,.lit (.int .i64 p.1))]) (fun _=>[]) 0 (fun p=>p.1≤s.length∧0≤p.2∧p.2<AA (s.take p.1)∧Lj s d 0=Lj (s.drop p.1) (d.drop p.1) p.2) (fun p=>s.length - p.1) (0,0)
    ⟨Nat.zero_le _,by simp only; omega,by simp [AA],rfl⟩ ?_
   rintro ⟨k,o⟩ ⟨hk,o0,o1,hE⟩;simp only at hk o0 o1 hE;dsimp only [List.cons_append,List.nil_append];generalize Lj s d 0=G at hE ⊢;by_cases hlt:k<s.length
   ·obtain ⟨z,hz⟩:∃ z,s[k]? = some z:=⟨_,List.getElem?_eq_getElem hlt⟩
    obtain ⟨y,hy⟩:∃ y,d[k]? = some y:=⟨_,List.getElem?_eq_getElem (by omega)⟩;have hzk:=Az (k:=.i64) hz;have hyk:=Az (k:=.i64) hy;rw [Akm hz hy] at hE;by_cases h3:y<0
    ·rw [if_pos (.inl h3)] at hE
     rw [hE,Aht];refine Af ?_;exact Am
    ·by_cases h4:z≤y
     ·rw [if_pos (.inr h4)] at hE
      rw [hE,Aht];refine Af ?_;exact Am
     ·rw [if_neg (by omega)] at hE
      obtain ⟨i1,i2,i3,i4⟩:=Ahr (y:=y) h1 hz o0 o1 (by omega) (by omega);have hm : -9223372036854775808≤o * z∧o * z≤9223372036854775807:=by omega
      refine Af ?_;exact ⟨(k+1,o * z+y),by simp only; omega,⟨by simp only; omega,by simp only; omega,i1,hE⟩,BI hC.m []⟩
   ·rw [List.drop_eq_nil_of_le (by omega),Ahs] at hE
    rw [hE,Aht];refine Af ?_;exact Am
  ·rw [if_pos (.inr h2)]
   rw [h1] at c1;refine Af ?_;exact Am
 ·rw [if_pos (.inl h1)]
  refine Af ?_;exact Am
theorem Akn {s:List Int} {k:Nat} {z:Int} (h:s[k]? = some z) (n:Int):AQ (s.drop k) n=((AQ (s.drop (k+1)) n).1 / z,((AQ (s.drop (k+1)) n).1 % z)::(AQ (s.drop (k+1)) n).2):=by
 rw [AU h,AQ]
theorem H4:∀ {s:List Int},Small s→0<AA s→∀ z ∈ s,0<z:=fun {s} hs h z hz=>by
 have h0:=(hs z hz).1;rcases Int.lt_or_eq_of_le h0 with h1|h1
 ·exact h1
 ·subst h1
  rw [JJ hz] at h;omega
theorem UU (s:List Int) (n:Int) (h1:(Co s).2=0) (n0:0≤n) (n1:n<(Co s).1):Dn Tryz.prog 121 [.sl 1 (Ab .i64 s),.lit (.int .i64 n)] [] 0 (.tup [.own 0,.lit (.bool true)]) [(0,some ⟨true,false,3,1,Ab .i64 (AQ s n).2⟩)] 1:=by
 have ls:=Ac .i64 s;have hl6:=CF h1;have hsm:=BG h1;have hle:=E6 s;have hpos:=H4 hsm (by rw [← E7 h1]; omega);have c1:=FT s;rw [h1] at c1;refine BK Wg fun C hC => ?_;refine Af ?_
 refine Ai [0,4,5,8] [] (fun p:Nat=>[(1,.lit (.int .i64 (AQ (s.drop p) n).1)),(9,.lit (.int .i64 ((p:Int) - 1)))]) (fun p=>[(0,some ⟨true,false,3,1,Ab .i64 (List.replicate p 0++(AQ (s.drop p) n).2)⟩)]) 1
  (fun p=>p≤s.length∧0≤(AQ (s.drop p) n).1∧(AQ (s.drop p) n).1≤n) (fun p=>p) s.length ⟨Nat.le_refl _,by simp [AQ]; omega,by simp [AQ]⟩ ?_
  (ht:=by simp only [List.drop_length,AQ]; rfl) (hh:=by simp only [List.drop_length,AQ,List.append_nil,← GY]; rfl)
 rintro c ⟨hc,d0,d1⟩;dsimp only [List.cons_append,List.nil_append];cases c with
 | zero =>
   simp only [List.drop_zero,List.replicate_zero,List.nil_append];refine Af ?_;exact BZ []
 | succ k =>
   obtain ⟨z,hz⟩:∃ z,s[k]? = some z:=⟨_,List.getElem?_eq_getElem (by omega)⟩;have hzp:=hpos z (List.mem_of_getElem? hz);have hzs:=hsm z (List.mem_of_getElem? hz);have hi:(((k+1:Nat):Int) - 1).toNat=k:=by omega
   have hzk:(Ab .i64 s)[(((k+1:Nat):Int) - 1).toNat]? = some [.lit (.int .i64 z)]:=by rw [hi]; exact Az hz
   have hdk:=Akn hz n;generalize AQ (s.drop (k+1)) n=D at d0 d1 hdk ⊢;obtain ⟨q,ds⟩:=D;simp only at d0 d1 hdk ⊢
   have hget:(Ab .i64 (List.replicate (k+1) 0++ds))[(((k+1:Nat):Int) - 1).toNat]? = some [.lit (.int .i64 0)]:=by
    rw [hi]; exact Az (by rw [List.getElem?_append_left (by simp)]; simp)
   have hll:(Ab .i64 (List.replicate (k+1) 0++ds)).length=k+1+ds.length:=by simp [Ab]
   have hset:(Ab .i64 (List.replicate (k+1) 0++ds)).set (((k+1:Nat):Int) - 1).toNat [.lit (.int .i64 (q % z))]=Ab .i64 (List.replicate k 0++(q % z)::ds):=by
    rw [hi,Bu,Akb]
   have hq0:0≤q / z:=Int.ediv_nonneg d0 (by omega);have hq1:q / z≤q:=Int.ediv_le_self _ d0;refine Af ?_;refine ⟨k,by omega,⟨by omega,by rw [hdk]; exact hq0,by rw [hdk]; show q / z≤n; omega⟩,BI hC.m [] ?_⟩;rw [hdk,show ((k:Nat):Int) - 1=((k+1:Nat):Int) - 1 - 1 from by omega];simp only;rw [← hset];rfl
theorem N9 (s:List Int) (a:Nat) (z:Int) (h1:(Co s).2=0) (hz:s[a]? = some z):Ae Tryz.prog 83 [.sl 1 (Ab .i64 s),.lit (.int .i64 a)] (.tup [.lit (.int .i64 (Bm (s.take a) 1)),.lit (.int .i64 z),.lit (.int .i64 (Bm (s.drop (a+1)) 1)),.lit (.bool true)]):=by
 have hB:A2=1000000000:=rfl;have ls:=Ac .i64 s;have hl6:=CF h1;have hsm:=BG h1;have ha:=(List.getElem?_eq_some_iff.1 hz).1;have hzk:=Az (k:=.i64) hz;have c1:=FT s;rw [h1] at c1;have c2:=Rj (s.take a) (fun y hy=>hsm y (List.mem_of_mem_take hy)) (by simp; omega);have c3:=Rj (s.drop (a+1)) (fun y hy=>hsm y (List.mem_of_mem_drop hy)) (by simp; omega);have k1:=Cut.upto (k:=.i64) (s:=s) (b:=a) (by omega);have k2:=Cut.from (k:=.i64) (s:=s) (a:=a+1) (by omega);refine Aa Pi fun C hC => ?_;refine Af ?_;exact Am
theorem Abm (s:List Int) (a:Nat) (n:Int) (h:a<s.length) (hl:s.length≤A2):Ae Tryz.prog 119 [.sl 1 (Ab .i64 s),.lit (.int .i64 a),.lit (.int .i64 n)] (.tup [.sl 1 (Ab .i64 (s.set a n)),.lit (.bool true)]):=by
 have hB:A2=1000000000:=rfl;have ls:=Ac .i64 s;have c1:=N8 (Ab .i64 s) (by omega) (by omega);obtain ⟨z,hz⟩:∃ z,s[a]? = some z:=⟨_,List.getElem?_eq_getElem h⟩;have hzk:=Az (k:=.i64) hz;have hset:=Bu .i64 s a n;refine Aa Sm fun C hC => ?_;refine Af ?_;refine AH (BP ?_);refine Cw [] c1 ?_;refine BP ?_;refine Ak ⟨rfl,?_⟩;refine Af ?_;rw [← hset];exact Am
theorem UV:∀ (s:List Int) (n:Int),Small s→∀ x ∈ (AQ s n).2,0≤x∧x≤1000000∨(∃ z ∈ s,z=0)
 | [],n,_,x,hx=>by simp [AQ] at hx
 | z::s,n,hs,x,hx=>by
   simp only [AQ,List.mem_cons] at hx;have hz:=hs z (by simp);by_cases h0:z=0
   ·exact .inr ⟨z,by simp,h0⟩
   rcases hx with rfl|hx
   ·left
    have h1:=Int.emod_nonneg (AQ s n).1 h0;have h2:=Int.emod_lt_of_pos (AQ s n).1 (show 0<z by omega);omega
   ·rcases UV s n (fun y hy=>hs y (by simp [hy])) x hx with h|⟨y,hy,e⟩
    ·exact .inl h
    ·exact .inr ⟨y,by simp [hy],e⟩
theorem UW {o:Nat} (ho:o<18446744073709551616) {A B:Al} (hA:okA A) (hB:okA B):AJ o A B=true↔Pj o A=Pj o B:=by
 rw [RX o ho A B hA.wf hB.wf,QU]
theorem Abn {o:Nat} (ho:o<18446744073709551616) {A B:Al} (hA:okA A) (hB:okA B):AJ o B A=AJ o A B:=by
 rw [Bool.eq_iff_iff,UW ho hA hB,UW ho hB hA];exact ⟨Eq.symm,Eq.symm⟩
end Go.Proofs.YtjcolpcfcdkckaaGreat
