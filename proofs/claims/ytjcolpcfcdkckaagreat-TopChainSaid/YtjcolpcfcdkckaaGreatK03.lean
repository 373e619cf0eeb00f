/- An abstract layer over the walk, part 5: append, make, slices written out. -/
import Derived.OpenShut
import Derived.ProofKit
import Derived.SizedLaws
import Derived.Test.YtjcolpcfcdkckaaGreatK02
namespace Go.Proofs.YtjcolpcfcdkckaaGreat
set_option linter.unusedVariables false
open Go.RowKit
theorem Ik {P:Program} {t e:TypeId} (h:CE P t=some e):P.underlying t=some (.slice e):=by
 unfold CE at h;split at h
 ·rename_i e' hu; simp only [Option.some.injEq] at h; rw [hu,h]
 ·cases h
theorem AZ.drop' {im:Nat→Prop} {w:World} {sz:Nat}:∀ (n:Nat) {es:List (List AV)} {vs:List Value},AZ im w sz es vs→AZ im w sz (es.drop n) (vs.drop (n * sz))
 | 0,es,vs,h=>by simpa using h
 | n+1,[],vs,h=>by simp only [AZ] at h; subst h; simp [AZ]
 | n+1,e::es,vs,h=>by
   simp only [AZ] at h;obtain ⟨x,rest,rfl,h1,h2,h3⟩:=h
   have:(x++rest).drop ((n+1) * sz)=rest.drop (n * sz):=by
    rw [Nat.add_mul,Nat.one_mul,Nat.add_comm,← List.drop_drop];congr 1;rw [← h1]; simp
   rw [this]; exact AZ.drop' n h3
theorem TN {P:Program} {w:World} {t ty e:TypeId} {i:TypeInfo} {z:Value} {sz by_:Nat} (ht:P.underlying t=some (.slice e)) (hi:P.info? e=some i) (hz:i.zero=some z) (hsize:i.size=sz) (hby:i.bytes=by_) (hzs:z.cells.size=sz) (hsz:0<sz)
 {av:Option Addr} {n cap:Nat} {xs:List Value} (hown:w.ownsRow 0 e sz (.slice av n cap) n xs) {ao:Option Addr} {m c:Nat} {news:List Value} (hmc:m≤c) (hnil:ao=none→c=0) (hl:news.length=m * sz)
 (hnews:∀ j u,news[j]? = some u→∃ b off,ao=some ⟨b,off,none⟩∧w.cell? ⟨b,off+j,none⟩=some u) (h1:Ft news) (h63:n+m≤maxLen) (hbytes:(n+m) * by_≤140737488355328) :
 ∃ av' cap' w',(Builtin.append_ #[t,t] ty #[.slice av n cap,.slice ao m c]).run P w=.ok (.slice av' (n+m) cap') w'∧w'.ownsRow 0 e sz (.slice av' (n+m) cap') (n+m) (xs++news)∧w.grownBy w' (Bz (.slice av n cap)) ∧
   (∀ x,av'=some x→w.heap.size≤x.block∨av=some x):=by
 have cells:∀ ad,ao=some ad→∀ j u,news[j]? = some u→w.cell? (ad.add j)=some u:=fun ad had j u hu=>by
  obtain ⟨b,off,hab,hc⟩:=hnews j u hu;rw [had] at hab;simp only [Option.some.injEq] at hab;subst hab;rw [CC]; exact hc
 have hcapn:n≤cap:=by
  rcases hown.2 with ⟨h1,h2⟩|⟨g,c',cur,h1,_,_,h3,_⟩
  ·omega
  ·simp only [Value.slice.injEq] at h1; omega
 have base:∀ {w':World} {v:Value} {k:Nat} {ys:List Value} {B:Nat},w'.ownsRow B e sz v k ys→w'.ownsRow 0 e sz v k ys:=fun {w' v k ys B} h=>by
  refine ⟨h.1,?_⟩;rcases h.2 with hn|⟨g,c',cur,r1,r2,rest⟩
  ·exact .inl hn
  ·exact .inr ⟨g,c',cur,r1,Nat.zero_le _,rest⟩
 have gany:∀ {w':World} {row:Option Nat},w.grownBy w' none→w.grownBy w' row:=fun h=>⟨h.os,h.tape,h.output,h.size,fun k hk _=>h.block k hk (by simp)⟩;cases ao with
 | none =>
   have hc0:=hnil rfl;have hm:m=0:=by omega
   subst hc0; subst hm;have hn0:news=[]:=List.eq_nil_of_length_eq_zero (by simpa using hl);subst hn0;refine ⟨av,cap,w,?_,by simpa using hown,⟨rfl,rfl,rfl,Nat.le_refl _,fun _ _ _=>rfl⟩,fun x hx=>.inr hx⟩;have hle:n+0≤cap:=by omega
   cases av with
   | none=>simp [Builtin.append_,run_underlying ht,sizeOf,typeInfo,hi,Builtin.lenOf,hcapn,Builtin.firstCells]
   | some x=>simp [Builtin.append_,run_underlying ht,sizeOf,typeInfo,hi,Builtin.lenOf,hcapn,Builtin.firstCells,storeCells]
 | some ad =>
   by_cases hfull:cap<n+m
   ·cases av with
    | some b =>
      have hb:∀ j u,xs[j]? = some u→w.cell? (b.add j)=some u:=fun j u hu=>by
       rcases hown.2 with ⟨h1,h2⟩|⟨g,c',cur,h1,_⟩
       ·simp at h1
       ·simp only [Value.slice.injEq,Option.some.injEq] at h1
        have:=hown.cells (g:=g) (by rw [h1.1]; rfl) j u hu
        rw [h1.1]; exact this
      obtain ⟨v',w',r1,r2,r3⟩:=run_append_arg_grows (P:=P) w t ty e i z sz by_ ht hi hz hsize hby hzs hsz b n cap xs hown.1 hb ad m c news hl (cells ad rfl) hfull h63 hbytes
      obtain ⟨av',cap',rfl⟩:∃ av' cap',v'=.slice av' (n+m) cap':=by
       rcases r2.2 with ⟨q1,q2⟩|⟨g,c',cur,q1,_⟩
       ·exact ⟨none,0,by rw [q1,q2]⟩
       ·exact ⟨_,_,q1⟩
      refine ⟨av',cap',w',r1,base r2,gany r3,fun x hx=>.inl ?_⟩;exact (r2.lt x.block (by rw [hx]; rfl)).1
    | none =>
      have h0:n=0∧cap=0:=by
       rcases hown.2 with ⟨q1,q2⟩|⟨g,c',cur,q1,_⟩
       ·simp only [Value.slice.injEq] at q1; exact ⟨q2,q1.2.2⟩
       ·simp at q1
      obtain ⟨rfl,rfl⟩:=h0;have hx0:xs=[]:=List.eq_nil_of_length_eq_zero (by rw [hown.1,Nat.zero_mul]);subst hx0;obtain ⟨v',w',r1,r2,r3,_⟩:=run_append_own (P:=P) w w.heap.size t ty e i z sz by_ ht hi hz hsize hby hzs hsz (.slice none 0 0) 0 [] (World.ownsRow_nil w _ e sz) ad m c news hl (cells ad rfl) h1 h63 hbytes (Nat.le_refl _)
      obtain ⟨av',cap',rfl⟩:∃ av' cap',v'=.slice av' (0+m) cap':=by
       rcases r2.2 with ⟨q1,q2⟩|⟨g,c',cur,q1,_⟩
       ·exact ⟨none,0,by rw [q1,q2]⟩
       ·exact ⟨_,_,q1⟩
      refine ⟨av',cap',w',r1,base r2,r3,fun x hx=>.inl ?_⟩;exact (r2.lt x.block (by rw [hx]; rfl)).1
   ·cases av with
    | none =>
      have h0:n=0∧cap=0:=by
       rcases hown.2 with ⟨q1,q2⟩|⟨g,c',cur,q1,_⟩
       ·simp only [Value.slice.injEq] at q1; exact ⟨q2,q1.2.2⟩
       ·simp at q1
      obtain ⟨rfl,rfl⟩:=h0;have hm:m=0:=by omega
      subst hm;have hn0:news=[]:=List.eq_nil_of_length_eq_zero (by simpa using hl);subst hn0;obtain ⟨v',w',r1,r2,r3,r4⟩:=run_append_own (P:=P) w 0 t ty e i z sz by_ ht hi hz hsize hby hzs hsz (.slice none 0 0) 0 xs hown ad 0 c [] hl (cells ad rfl) h1 h63 hbytes (Nat.zero_le _);have hv:v'=.slice none 0 0:=r4.2 ⟨rfl,rfl⟩;subst hv;exact ⟨none,0,w',r1,r2,r3,fun x hx=>by cases hx⟩
    | some b =>
      rcases hown.2 with ⟨q1,_⟩|⟨gg,c',cur,q1,_,q3,q4,q5,q6,q7⟩
      ·simp at q1
      ·simp only [Value.slice.injEq,Option.some.injEq] at q1
       obtain ⟨rfl,_,rfl⟩:=q1
       have hfit:n * i.size+news.length≤cur.size:=by
        rw [hsize,hl,q6,← Nat.add_mul]; exact Nat.mul_le_mul_right _ (by omega)
       have r1:=run_append_room (P:=P) w t ty e i ht hi gg n cap cur q3 ad m c news (by rw [hsize]; exact hl) (cells ad rfl) h1 (by omega) hfit;rw [hsize] at r1;refine ⟨some ⟨gg,0,none⟩,cap,_,r1,⟨?_,.inr ⟨gg,cap,_,rfl,Nat.zero_le _,setRow_heap w gg cur _ e (0,0) q3,by omega,q5,?_,?_⟩⟩,?_,fun x hx=>.inr hx⟩
       ·rw [List.length_append,hown.1,hl,Nat.add_mul]
       ·have:n * sz+news.length≤cur.size:=by rw [← hsize]; exact hfit
        simp; omega
       ·have hx:xs=cur.toList.take (n * sz):=q7.symm
        have hxl:=hown.1;rw [List.append_assoc,← hx,← List.append_assoc,show (n+m) * sz=(xs++news).length from by rw [List.length_append,hxl,hl,Nat.add_mul],List.take_left]
       ·exact E4
section
variable {P:Program} {st:St} {d:Option Nat} {g:Option (Nat × Bool)}
def AdS:Value→Bool
 | .slice none 0 0=>true
 | _=>false
theorem AcD {v:Value} (h:AdS v=true):v=.slice none 0 0:=by
 unfold AdS at h;split at h
 ·rfl
 ·cases h
def G9 (h:Hp) (sz:Nat):AV→Option (List (List AV))
 | .sl sz' es=>bif Nat.beq sz' sz then some es else none
 | .own k=>match hl h k with|some o=>bif o.row && Nat.beq o.sz sz then some o.es else none|none=>none
 | .lit v=>bif AdS v then some [] else none
 | _=>none
theorem S5 {E:CK} {w:World} {h:Hp} {sz:Nat} {av:AV} {es:List (List AV)} {v:Value} (H:Cr E w h) (hs:G9 h sz av=some es) (hr:Rd E w av v) :
 ∃ a c vs,v=.slice a es.length c∧es.length≤c∧(a=none→c=0)∧AZ E.im w sz es vs∧Ft vs∧es.length≤Tx∧∀ j u,vs[j]? = some u→∃ b off,a=some ⟨b,off,none⟩∧w.cell? ⟨b,off+j,none⟩=some u:=by
 match av,hs,hr with
 | .lit u,hs,hr =>
   simp only [G9] at hs;cases hu:AdS u with
   | false=>simp [hu] at hs
   | true =>
     simp only [hu,cond_true,Option.some.injEq] at hs; subst hs
     have:=AcD hu
     subst this;exact ⟨none,0,[],hr,Nat.le_refl _,fun _=>rfl,rfl,fun u hu=>(by cases hu),Nat.zero_le _,fun j u hu=>(by simp at hu)⟩
 | .sl sz' es',hs,hr =>
   simp only [G9] at hs;cases hb:Nat.beq sz' sz with
   | false=>simp [hb] at hs
   | true =>
     simp only [hb,cond_true,Option.some.injEq] at hs; subst hs
     have:=Nat.eq_of_beq_eq_true hb; subst this
     obtain ⟨a,cap,vs,h1,h2,h3,h4,h5,h6,h7⟩:=hr;exact ⟨a,cap,vs,h1,h2,h3,h7,h6,h4,fun j u hu=>by obtain ⟨b,off,e1,_,e2⟩:=h5 j u hu; exact ⟨b,off,e1,e2⟩⟩
 | .own k,hs,hr =>
   simp only [G9] at hs;split at hs
   ·rename_i o ho
    cases hb:(o.row && Nat.beq o.sz sz) with
    | false=>simp [hb] at hs
    | true =>
      simp only [hb,cond_true,Option.some.injEq] at hs; subst hs;simp only [Bool.and_eq_true] at hb
      have:=Nat.eq_of_beq_eq_true hb.2; subst this
      obtain ⟨hl1,_,rfl⟩:=hr;obtain ⟨k1,k2⟩:=H.ob k o hl1 ho;rw [hb.1] at k2;obtain ⟨vs,a,cap,j1,j2,j3,j4,j5⟩:=k2;refine ⟨a,cap,vs,j1,?_,?_,j3,j4,j5,fun j u hu => ?_⟩
      ·rcases j2.2 with ⟨hn,h0⟩|⟨g,c,cur,hv,_,_,hc',_⟩
       ·omega
       ·rw [j1] at hv; simp only [Value.slice.injEq] at hv; omega
      ·intro ha
       rcases j2.2 with ⟨hn,h0⟩|⟨g,c,cur,hv,_⟩
       ·rw [j1] at hn; simp only [Value.slice.injEq] at hn; exact hn.2.2
       ·rw [j1,ha] at hv; simp at hv
      ·rcases j2.2 with ⟨hn,h0⟩|⟨g,c,cur,hv,_⟩
       ·have:vs.length=0:=by rw [j2.1,h0,Nat.zero_mul]
        have:=(List.getElem?_eq_some_iff.1 hu).1
        omega
       ·rw [j1] at hv
        simp only [Value.slice.injEq] at hv
        have:=j2.cells (g:=g) (by rw [j1,hv.1]; rfl) j u hu
        rw [CC] at this;exact ⟨g,0,hv.1,this⟩
   ·cases hs
 | .any,hs,_=>simp [G9] at hs
 | .agg _,hs,_=>simp [G9] at hs
 | .tup _,hs,_=>simp [G9] at hs
 | .ep _ _ _ _,hs,_=>simp [G9] at hs
 | .optr _ _ _,hs,_=>simp [G9] at hs
 | .osl _ _ _,hs,_=>simp [G9] at hs
 | .sem _,hs,_=>simp [G9] at hs
 | .fn _ _ _,hs,_=>simp [G9] at hs
theorem OP {w:World} {ρ:Operand→Value} {t:TypeId} {s x:Operand} {dst:Option Tmp} {ty:TypeId} {pos:String} {after:Array Edge} {guard:Option (Nat × Bool)} {vs vx v':Value} {w':World} (hs:ρ s=vs) (hx:ρ x=vx)
 (h:(Builtin.append_ #[t,t] ty #[vs,vx]).run P w=.ok v' w') :
 (execOp ρ ⟨dst,.call { callee:=.builtin .append,args := #[s,x],argTypes := #[t,t] },ty,pos,after,guard⟩).run P w=.ok (.value v') w':=by
 simp only [execOp,resolve,Sem.run_bind,Sem.run_pure,Result.andThen_ok,invoke,builtin,List.map_toArray,List.map_cons,List.map_nil,hs,hx,h]
theorem Aat {e:TypeId} {sz by_:Nat} {z:List Value} {s x:Operand} {id:Nat} {ob:OB} {av:AV} {news:List (List AV)} (rd:List Nat) (hg:BD st g) (hs:ev st s=.own id) (ho:hl st.h id=some ob) (hrow:ob.row=true) (hro:ob.ro=false) (hsz:ob.sz=sz) (he:ob.e=e)
 (hx:ev st x=av) (hn:G9 (restr rd st.h) sz av=some news) (hb:(ob.es.length+news.length) * by_≤140737488355328) :
 BS P st ⟨⟨d,g,.append e sz by_ z s x⟩,.own st.nx,rd,[(st.nx,some ⟨true,false,e,sz,ob.es++news⟩),(id,none)],1⟩:=by
 intro N ops o hlow C E a w sx hN R hag hh hnw K Q hK;rw [if_pos (C2 hlow R hag hg)];obtain ⟨h1,h2,h3,h4⟩:=Bp hlow;obtain ⟨hnl,hnx⟩:=hnw 0 (Nat.lt_succ_self 0);have hsv:=Cv R hag (x:=s) (by simp [Ci.opds]);have hxv:=Cv R hag (x:=x) (by simp [Ci.opds]);rw [hs] at hsv; rw [hx] at hxv;obtain ⟨hl1,_,hsv⟩:=hsv;have ho':hl sx.h id=some ob:=by rw [hh id (.inr (by simp))]; exact ho
 have H0:Cr E w (restr rd st.h):=R.heap.restr (fun id hid=>hh id (.inl hid));obtain ⟨k1,k2⟩:=R.heap.ob id ob hl1 ho';rw [hrow] at k2;obtain ⟨vs,a0,cap,j1,j2,j3,j4,j5⟩:=k2;obtain ⟨ax,cx,us,x1,x2,x3,x4,x5,x6,x7⟩:=S5 H0 hn hxv;obtain ⟨dst,op,ty,pos,after,guard⟩:=o;obtain ⟨t,rfl,het,hzt⟩:=AL h3;obtain ⟨i,zv,m1,m2,m3,m4,m5,m6,m7,m8,m9⟩:=ER hzt
 have hut:P.underlying t=some (.slice e):=by
  unfold CE at het;split at het
  ·rename_i e' hu; simp only [Option.some.injEq] at het; rw [hu,het]
  ·cases het
 have hlen:ob.es.length+news.length≤140737488355328:=Nat.le_trans (Nat.le_mul_of_pos_right _ m9) hb;have hzs:zv.cells.size=sz:=by have:=congrArg List.length m3; simp at this; omega
 rw [hsz,he] at j2;rw [j1] at j2;obtain ⟨av',cap',w',r1,r2,r3,r4⟩:=TN (P:=P) (ty:=ty) hut m1 m2 m4 m5 hzs m8 j2 x2 x3 (by rw [x4.length]) x7 x5 (by unfold maxLen; omega) hb;unfold Oper.wp;rw [OP (hsv.trans j1) x1 r1,Oper.upon_value]
 have hV:∀ b,Bz (.slice av' (ob.es.length+news.length) cap')=some b→w.heap.size≤b∨Bz (E.val id)=some b:=fun b hb'=>by
  cases av' with
  | none=>simp [Bz] at hb'
  | some y =>
    simp only [Bz,Option.some.injEq] at hb';rcases r4 y rfl with h|h
    ·left; omega
    ·right; rw [j1,h]; simp [Bz,hb']
 have hob:G6 (BY E st.nx (.slice av' (ob.es.length+news.length) cap') sz) w' st.nx ⟨true,false,e,sz,ob.es++news⟩:=by
  refine ⟨by simp [BY],vs++us,av',cap',by simp [BY],by simpa [BY] using r2,?_,fun u hu => ?_,by simp [Tx]; omega⟩
  ·have hw:∀ b,E.im b→w'.heap[b]? = w.heap[b]? := fun b hb'=>r3.block b (R.heap.lt b hb') (fun e'=>by
    have:=(R.heap.im id ob b hl1 ho' (by rw [j1]; exact e'.symm)).1 hb'
    rw [hro] at this; cases this)
   rw [hsz] at j3;exact AZ.mono (fun b h=>h) hw _ _ _ (j3.append x4)
  ·rcases List.mem_append.1 hu with h|h
   ·exact j4 u h
   ·exact x5 u h
 have hR:=EP.new R hnl hnx (some id) (Bz (E.val id)) (by rw [j1]; exact r3) (fun b hb'=>⟨id,ob,rfl,hl1,ho',hb',hro⟩) (ob:=⟨true,false,e,sz,ob.es++news⟩) hob rfl hV;refine hK _ w' (BY E st.nx (.slice av' (ob.es.length+news.length) cap') sz) ?_ (fun id' hid=>Or.elim hid Or.inl (fun h=>.inr ⟨0,Nat.lt_succ_self 0,h⟩))
 have:=hR.put (d:=dst) (fun k hk=>by rw [hN]; exact h2 k hk) (v:=.own st.nx) (u:=.slice av' (ob.es.length+news.length) cap') ⟨.inr rfl,rfl,by simp [BY]⟩
 simp only [St.appx];rw [show d=dst from h1];exact this
theorem W0 {e:TypeId} {sz by_:Nat} {z:List Value} {s x:Operand} {av:AV} {news:List (List AV)} (rd:List Nat) (hg:BD st g) (hs:ev st s=.lit (.slice none 0 0))
 (hx:ev st x=av) (hn:G9 (restr rd st.h) sz av=some news) (hb:news.length * by_≤140737488355328) :
 BS P st ⟨⟨d,g,.append e sz by_ z s x⟩,.own st.nx,rd,[(st.nx,some ⟨true,false,e,sz,news⟩)],1⟩:=by
 intro N ops o hlow C E a w sx hN R hag hh hnw K Q hK;rw [if_pos (C2 hlow R hag hg)];obtain ⟨h1,h2,h3,h4⟩:=Bp hlow;obtain ⟨hnl,hnx⟩:=hnw 0 (Nat.lt_succ_self 0);have hsv:=AX (Cv R hag (x:=s) (by simp [Ci.opds])) hs;have hxv:=Cv R hag (x:=x) (by simp [Ci.opds]);rw [hx] at hxv;have H0:Cr E w (restr rd st.h):=R.heap.restr (fun id hid=>hh id (.inl hid));obtain ⟨ax,cx,us,x1,x2,x3,x4,x5,x6,x7⟩:=S5 H0 hn hxv;obtain ⟨dst,op,ty,pos,after,guard⟩:=o;obtain ⟨t,rfl,het,hzt⟩:=AL h3;obtain ⟨i,zv,m1,m2,m3,m4,m5,m6,m7,m8,m9⟩:=ER hzt
 have hut:P.underlying t=some (.slice e):=by
  unfold CE at het;split at het
  ·rename_i e' hu; simp only [Option.some.injEq] at het; rw [hu,het]
  ·cases het
 have hlen:news.length≤140737488355328:=Nat.le_trans (Nat.le_mul_of_pos_right _ m9) hb;have hzs:zv.cells.size=sz:=by have:=congrArg List.length m3; simp at this; omega
 obtain ⟨av',cap',w',r1,r2,r3,r4⟩:=TN (P:=P) (ty:=ty) hut m1 m2 m4 m5 hzs m8 (World.ownsRow_nil w 0 e sz) x2 x3 (by rw [x4.length]) x7 x5 (by unfold maxLen; omega) (by rw [Nat.zero_add]; exact hb);rw [Nat.zero_add,List.nil_append] at r2;rw [Nat.zero_add] at r1;unfold Oper.wp;rw [OP hsv x1 r1,Oper.upon_value]
 have hV:∀ b,Bz (.slice av' news.length cap')=some b→w.heap.size≤b∨(none:Option Nat)=some b:=fun b hb'=>by
  cases av' with
  | none=>simp [Bz] at hb'
  | some y =>
    simp only [Bz,Option.some.injEq] at hb';rcases r4 y rfl with h|h
    ·left; omega
    ·cases h
 have hob:G6 (BY E st.nx (.slice av' news.length cap') sz) w' st.nx ⟨true,false,e,sz,news⟩:=by
  refine ⟨by simp [BY],us,av',cap',by simp [BY],by simpa [BY] using r2,?_,x5,by simp [Tx]; omega⟩;exact AZ.mono (fun b h=>h) (fun b hb'=>r3.block b (R.heap.lt b hb') (by simp [Bz])) _ _ _ x4
 have hR:=EP.new R hnl hnx none none (by simpa [Bz] using r3) (fun b hb'=>by cases hb') (ob:=⟨true,false,e,sz,news⟩) hob rfl hV;refine hK _ w' (BY E st.nx (.slice av' news.length cap') sz) ?_ (fun id' hid=>Or.elim hid Or.inl (fun h=>.inr ⟨0,Nat.lt_succ_self 0,h⟩))
 have:=hR.put (d:=dst) (fun k hk=>by rw [hN]; exact h2 k hk) (v:=.own st.nx) (u:=.slice av' news.length cap') ⟨.inr rfl,rfl,by simp [BY]⟩
 simp only [St.appx];rw [show d=dst from h1];exact this
theorem AfA {w:World} {sz n:Nat} {a:Option Addr} {c:Nat} {us:List Value} (hc:n≤c) (hnil:a=none→c=0) (hl:us.length=n * sz) (h:∀ j u,us[j]? = some u→∃ b off,a=some ⟨b,off,none⟩∧w.cell? ⟨b,off+j,none⟩=some u):(Builtin.firstCells sz n (.slice a n c)).run P w=.ok us.toArray w:=by
 cases a with
 | none =>
   have:=hnil rfl
   have:n=0:=by omega
   subst this;rw [Nat.zero_mul] at hl;obtain rfl:=List.eq_nil_of_length_eq_zero hl;exact run_firstCells_none _ _ _ _ _
 | some ad =>
   exact run_firstCells_some w sz n ad n c us hl fun j v hv=>by
    obtain ⟨b,off,hab,hcl⟩:=h j v hv;simp only [Option.some.injEq] at hab;subst hab;rw [CC]; exact hcl
theorem AlF {sz id:Nat} {x y:Operand} {ob:OB} {av:AV} {news:List (List AV)} (rd:List Nat) (hg:BD st g) (hs:ev st x=.own id) (ho:hl st.h id=some ob) (hrow:ob.row=true) (hro:ob.ro=false) (hsz:ob.sz=sz)
 (hx:ev st y=av) (hn:G9 (restr rd st.h) sz av=some news) (hle:news.length≤ob.es.length) :
 BS P st ⟨⟨d,g,.copy sz x y⟩,.lit (.int .i64 news.length),rd,[(id,some { ob with es:=news++ob.es.drop news.length })],0⟩:=by
 intro N ops o hlow C E a w sx hN R hag hh hnw K Q hK;rw [if_pos (C2 hlow R hag hg)];obtain ⟨h1,h2,h3,h4⟩:=Bp hlow;have hsv:=Cv R hag (x:=x) (by simp [Ci.opds]);have hxv:=Cv R hag (x:=y) (by simp [Ci.opds]);rw [hs] at hsv; rw [hx] at hxv;obtain ⟨hl1,_,hsv⟩:=hsv;have ho':hl sx.h id=some ob:=by rw [hh id (.inr (by simp))]; exact ho
 have H0:Cr E w (restr rd st.h):=R.heap.restr (fun id hid=>hh id (.inl hid));obtain ⟨k1,k2⟩:=R.heap.ob id ob hl1 ho';rw [hrow] at k2;obtain ⟨vs,a0,cap,j1,j2,j3,j4,j5⟩:=k2;obtain ⟨ax,cx,us,x1,x2,x3,x4,x5,x6,x7⟩:=S5 H0 hn hxv;have hul:=x4.length;obtain ⟨dst,op,ty,pos,after,guard⟩:=o;obtain ⟨t,t',e,gg,rfl,het,hsz'⟩:=AL h3;obtain ⟨dd,i,q1,q2,q3,_⟩:=D9 hsz';have hsize:(sizeOf e).run P w=.ok sz w:=by simp [sizeOf,typeInfo,q2,q3]
 have hut:P.underlying t=some (.slice e):=Ik het;have hfc:=AfA (P:=P) (w:=w) (sz:=sz) x2 x3 hul x7;have hmin:Nat.min news.length ob.es.length=news.length:=Nat.min_eq_left hle
 have hrun:∀ w',(match a0 with|some ad=>(storeCells ad us).run P w|none=>.ok () w)=.ok () w'→(execOp a.eval ⟨dst,.call { callee:=.builtin .copy,args := #[x,y],argTypes := #[t,t'] },ty,pos,after,guard⟩).run P w=.ok (.value (.int .i64 news.length)) w':=by
  intro w' hw';simp only [execOp,resolve,Sem.run_bind,Sem.run_pure,Result.andThen_ok,invoke,builtin,List.map_toArray,List.map_cons,List.map_nil,hsv,j1,x1];cases a0 with
  | none =>
    simp only [Result.ok.injEq,true_and] at hw';subst hw';simp [Builtin.copy_,run_underlying hut,Builtin.lenOf,hsize,hmin,hfc,goInt]
  | some ad =>
    simp only at hw';simp [Builtin.copy_,run_underlying hut,Builtin.lenOf,hsize,hmin,hfc,hw',goInt]
 unfold Oper.wp;rcases j2.2 with ⟨hv0,h0⟩|⟨g',c,cur,hvv,_,hcur,hnc,hcm,hcs,htake⟩
 ·rw [j1] at hv0
  simp only [Value.slice.injEq] at hv0;obtain ⟨rfl,_,_⟩:=hv0;rw [hrun w rfl,Oper.upon_value];have hn0:news=[]:=List.eq_nil_of_length_eq_zero (by omega);subst hn0;refine hK _ w E ?_ (fun id h=>.inl h)
  have hR:EP C E ⟨sx.t,(id,some { ob with es:=[]++ob.es.drop ([]:List (List AV)).length })::sx.h,sx.nx⟩ a w:=R.congr (fun _=>rfl) (fun k=>by
   by_cases hk:k=id
   ·subst hk; rw [ho']; simp [hl,look]
   ·have:Nat.beq id k=false:=by cases hb:Nat.beq id k; rfl; exact absurd (Nat.eq_of_beq_eq_true hb).symm hk
    simp [hl,look,this]) (Nat.le_refl _)
  have:=hR.put (d:=dst) (fun k hk=>by rw [hN]; exact h2 k hk) (v:=.lit (.int .i64 (([]:List (List AV)).length:Nat))) (u:=.int .i64 (([]:List (List AV)).length:Nat)) rfl
  simp only [St.appx];rw [show d=dst from h1];exact this
 ·rw [j1] at hvv
  simp only [Value.slice.injEq] at hvv;obtain ⟨rfl,_,rfl⟩:=hvv;have hb:Bz (E.val id)=some g':=by rw [j1]; rfl
  have hmul:news.length * ob.sz≤ob.es.length * ob.sz:=Nat.mul_le_mul_right _ hle;have hcm':ob.es.length * ob.sz≤cap * ob.sz:=Nat.mul_le_mul_right _ hnc;have hst:=run_storeCells_at P g' 0 ob.e us 0 cur w hcur (by rw [hul,hcs,hsz] at *; omega) x5;simp only [Nat.add_zero,Nat.zero_add,List.take_zero,List.nil_append] at hst;generalize hW:(us++cur.toList.drop us.length).toArray=W at hst;rw [hrun _ hst,Oper.upon_value];refine hK _ _ E ?_ (fun id h=>.inl h);have hgr:w.grownBy (w.setRow g' W) (some g'):=E4;have hnim:¬ E.im g':=fun h=>by have:=(R.heap.im id ob g' hl1 ho' hb).1 h; rw [hro] at this; cases this
  have hw:∀ k,E.im k→(w.setRow g' W).heap[k]? = w.heap[k]? := fun k hk=>hgr.block k (R.heap.lt k hk) (fun e=>by simp at e; subst e; exact hnim hk);have hWl:W.toList=us++cur.toList.drop us.length:=by rw [← hW]
  have hvt:vs=cur.toList.take (ob.es.length * ob.sz):=htake.symm;have hul':us.length=news.length * ob.sz:=by rw [hul,hsz]
  have hlen':(news++ob.es.drop news.length).length=ob.es.length:=by simp; omega
  have hob:G6 E (w.setRow g' W) id { ob with es:=news++ob.es.drop news.length }:=by
   refine ⟨k1,?_⟩;simp only [hrow,cond_true]
   have hE:AZ E.im w ob.sz (news++ob.es.drop news.length) (us++vs.drop (news.length * ob.sz)):=by
    have h4:AZ E.im w ob.sz news us:=by rw [hsz]; exact x4
    exact h4.append (AZ.drop' news.length j3)
   refine ⟨us++vs.drop (news.length * ob.sz),some ⟨g',0,none⟩,cap,by simp only [hlen']; exact j1,⟨?_,.inr ⟨g',cap,W,?_,Nat.zero_le _,setRow_heap w g' cur W ob.e (0,0) hcur,by simp only [hlen']; exact hnc,hcm,?_,?_⟩⟩,AZ.mono (fun k h=>h) hw _ _ _ hE,?_,by simp only [hlen']; exact j5⟩
   ·have:=hE.length; simpa using this
   ·simp only [hlen']; exact j1
   ·rw [← hcs]; have:=congrArg List.length hWl; simp at this ⊢; omega
   ·simp only [hlen']
    rw [hWl,hvt,← hul']
    have e1:(us++cur.toList.drop us.length).take (ob.es.length * ob.sz)=us++(cur.toList.drop us.length).take (ob.es.length * ob.sz - us.length):=by
     rw [List.take_append,List.take_of_length_le (by omega)]
    rw [e1,List.drop_take]
   ·intro u hu
    rcases List.mem_append.1 hu with hu|hu
    ·exact x5 u hu
    ·exact j4 u (List.mem_of_mem_drop hu)
  have:=(R.upd hl1 ho' hro hb hgr hob hro).put (d:=dst) (fun k hk=>by rw [hN]; exact h2 k hk) (v:=.lit (.int .i64 news.length)) (u:=.int .i64 news.length) rfl
  simp only [St.appx];rw [show d=dst from h1];exact this
end
theorem Dt {P:Program} {t e:TypeId} (h:CE P t=some e):P.underlying t=some (.slice e):=by
 unfold CE at h;split at h
 ·rename_i e' hu; simp only [Option.some.injEq] at h; rw [hu,h]
 ·cases h
theorem W1 {im:Nat→Prop} {w:World}:∀ (l:List Value),Be im w (l.map .lit) l
 | []=>rfl
 | v::l=>⟨v,l,rfl,rfl,W1 l⟩
theorem AdT {im:Nat→Prop} {w:World} {z:Array Value} (hz:0<z.size):∀ (n k:Nat),AZ im w z.size (List.replicate n (z.toList.map .lit)) ((List.range' (k * z.size) (n * z.size)).map (z[· % z.size]!))
 | 0,k=>by simp [AZ]
 | n+1,k=>by
   simp only [List.replicate_succ,AZ];refine ⟨z.toList,(List.range' ((k+1) * z.size) (n * z.size)).map (z[· % z.size]!),?_,by simp,W1 _,AdT hz n (k+1)⟩;rw [Nat.add_mul n 1,Nat.one_mul,Nat.add_comm (n * z.size),← List.range'_append_1,List.map_append,Nat.add_mul k 1,Nat.one_mul];congr 1;apply List.ext_getElem
   ·simp
   ·intro i h1 h2
    simp only [List.length_map,List.length_range'] at h1;simp only [List.getElem_map,List.getElem_range',Nat.one_mul]
    have:(k * z.size+i) % z.size=i:=by
     rw [Nat.mul_comm,Nat.mul_add_mod]; exact Nat.mod_eq_of_lt h1
    rw [this];simp [h1]
theorem TO {im:Nat→Prop} {w:World} {z:Array Value} (hz:0<z.size) (n:Nat):AZ im w z.size (List.replicate n (z.toList.map .lit)) ((List.range (n * z.size)).map (z[· % z.size]!)):=by
 have:=AdT (im:=im) (w:=w) hz n 0
 rw [Nat.zero_mul] at this;rw [List.range_eq_range']; exact this
theorem W2 {z:Array Value} (h1:Ft z.toList) (hz:0<z.size) (n:Nat):Ft ((List.range n).map (z[· % z.size]!)):=fun u hu=>by
 obtain ⟨i,_,rfl⟩:=List.mem_map.1 hu;have hlt:i % z.size<z.size:=Nat.mod_lt _ hz;refine h1 _ ?_;simp only [hlt,getElem!_pos];exact Array.mem_toList_iff.2 (Array.getElem_mem hlt)
section
variable {P:Program} {st:St} {d:Option Nat} {g:Option (Nat × Bool)}
theorem Ag0 {e:TypeId} {sz by_:Nat} {z:List Value} {l c:Operand} {kl kc:IntKind} {L M:Int} (hg:BD st g) (hl':ev st l=.lit (.int kl L)) (hc:ev st c=.lit (.int kc M)) (h0:0≤L) (h1:L≤M) (hb:(by_:Int) * M≤281474976710656) :
 BS P st ⟨⟨d,g,.make e sz by_ z l c⟩,.own st.nx,[],[(st.nx,some ⟨true,false,e,sz,List.replicate L.toNat (z.map .lit)⟩)],1⟩ :=
  OO (ob:=⟨true,false,e,sz,List.replicate L.toNat (z.map .lit)⟩) [] hg (fun o C E ac w sx hlow R hr hh hnl=>by
 have hlv:=AX (hr l (by simp [Ci.opds])) hl';have hcv:=AX (hr c (by simp [Ci.opds])) hc;obtain ⟨dst,o,ty,pos,after,guard⟩:=o;obtain ⟨t,rfl,het,hzt⟩:=AL hlow;obtain ⟨i,zv,m1,m2,m3,m4,m5,m6,m7,m8,m9⟩:=ER hzt;have hzs:zv.cells.size=sz:=by have:=congrArg List.length m3; simp at this; omega
 have hM:M≤281474976710656:=by
  have:(1:Int) * M≤by_ * M:=Int.mul_le_mul_of_nonneg_right (by omega) (by omega)
  omega
 have hrun:=run_make (P:=P) w t e i zv (Dt het) m1 m2 kl kc L M h0 h1 (by rw [m5]; exact hb) (by omega);rw [m4] at hrun;have hLM:L.toNat≤M.toNat:=by omega
 have hmul:L.toNat * sz≤M.toNat * sz:=Nat.mul_le_mul_right _ hLM;have hgr:=World.grownBy_alloc w (.cells (madeCells zv.cells (M.toNat * sz)) e) none;refine ⟨.slice (some ⟨w.heap.size,0,none⟩) L.toNat M.toNat,w.alloc (.cells (madeCells zv.cells (M.toNat * sz)) e),?_,hgr,?_,fun b hb=>by simp [Bz] at hb; omega,rfl,fun h=>by cases h⟩
 ·simp only [execOp,hlv,hcv,Sem.run_bind,hrun,Result.andThen_ok,Sem.run_pure]
 ·have hrd:=TO (im:=E.im) (w:=w.alloc (.cells (madeCells zv.cells (M.toNat * sz)) e)) (z:=zv.cells) (by omega) L.toNat
  rw [hzs] at hrd;refine ⟨by simp [BY],(List.range (L.toNat * sz)).map (zv.cells[· % sz]!),some ⟨w.heap.size,0,none⟩,M.toNat,by simp [BY],⟨by simp,.inr ⟨w.heap.size,M.toNat,_,by simp [BY],Nat.zero_le _,heap_alloc_new w _,by simpa using hLM,by unfold maxLen; omega,by simp [madeCells],?_⟩⟩,by rw [m3]; exact hrd,?_,by simp [Tx]; omega⟩
  ·simp only [madeCells,Array.toList_map,Array.toList_range,List.length_replicate,hzs,← List.map_take,List.take_range,Nat.min_eq_left hmul]
  ·have:=W2 (z:=zv.cells) (by rw [← m3]; exact m7) (by omega) (L.toNat * sz)
   rw [hzs] at this; exact this) rfl
theorem W3 {place:Nat→Option (Nat × Nat)}:∀ {ps:List (Nat × Value)} {cells out:Array Value},Instr.fill place cells ps=some out→out.size=cells.size
 | [],cells,out,h=>by simp only [Instr.fill,Option.some.injEq] at h; rw [h]
 | (i,v)::ps,cells,out,h=>by
   simp only [Instr.fill] at h;split at h
   ·cases h
   ·split at h
    ·cases h
    ·rename_i off size hp hc
     rw [W3 h]
     have:∀ (l:List (Value × Nat)) (c:Array Value),(l.foldl (fun cs (p:Value × Nat)=>cs.setIfInBounds (off+p.2) p.1) c).size=c.size:=by
      intro l; induction l with
      | nil=>intro c; rfl
      | cons p l ih=>intro c; simp only [List.foldl_cons]; rw [ih]; simp
     rw [← Array.foldl_toList];exact this _ _
theorem W4 {E:CK} {w:World} {ac:Act} {sz:Nat}:∀ {ps:List (Nat × Operand)} {avs:List AV},(∀ (i:Nat) p av,ps[i]? = some p→avs[i]? = some av→Rd E w av (ac.eval p.2))→ps.length=avs.length →
 AdR E w (fun i=>some (i * sz,sz)) (ps.map fun p=>(p.1,ac.eval p.2)) ((ps.zip avs).map fun p=>(p.1.1 * sz,sz,p.2))
 | [],[],_,_=>trivial
 | [],_::_,_,h=>by simp at h
 | _::_,[],_,h=>by simp at h
 | p::ps,a::avs,hr,h=>⟨⟨rfl,hr 0 p a rfl rfl⟩,W4 (fun i p' a' h1 h2=>hr (i+1) p' a' (by simpa using h1) (by simpa using h2)) (by simpa using h)⟩
theorem Aau {e:TypeId} {sz len:Nat} {z:List Value} {ps:List (Nat × Operand)} {avs cs cs':List AV} (rd:List Nat) (hg:BD st g) (hv:AR (C4 true (restr rd st.h) 4) (ps.map fun p=>ev st p.2)=some avs)
 (hf:OM (List.replicate len (z.map .lit)).flatten ((ps.zip avs).map fun p=>(p.1.1 * sz,sz,p.2))=some cs) (hp:Ij (fun _=>none) cs=some cs') :
 BS P st ⟨⟨d,g,.rowlit e sz len z ps⟩,.own st.nx,rd,[(st.nx,some ⟨true,false,e,sz,Ep sz len cs'⟩)],1⟩ :=
  OO (ob:=⟨true,false,e,sz,Ep sz len cs'⟩) rd hg (fun o C E ac w sx hlow R hr hh hnl=>by
 obtain ⟨dst,o,ty,pos,after,guard⟩:=o;obtain ⟨t,l,by_,rfl,het,hzt,hlen,rfl,hps⟩:=AL hlow;obtain ⟨i,zv,m1,m2,m3,m4,m5,m6,m7,m8,m9⟩:=ER hzt;have hzs:zv.cells.size=sz:=by have:=congrArg List.length m3; simp at this; omega
 have H0:Cr E w (restr rd st.h):=R.heap.restr hh
 have hE:∀ b,imV true E (restr rd st.h) b→E.im b:=by
  rintro b (hb|⟨id,ob,k1,k2,k3,k4⟩)
  ·exact hb
  ·exact (H0.im id ob b k1 k2 k3).2 (k4 rfl)
 have hav:∀ {xs:List Operand} {ys:List AV},(∀ x ∈ xs,Rd E w (ev st x) (ac.eval x))→AR (C4 true (restr rd st.h) 4) (xs.map (ev st))=some ys→∀ (j:Nat) x y,xs[j]? = some x→ys[j]? = some y→Rd E w y (ac.eval x):=by
  intro xs ys hx he j x y h1 h2;obtain ⟨k1,k2⟩:=EI he;obtain ⟨y',q1,q2⟩:=k2 j (ev st x) (by simp [h1]);rw [h2] at q1;obtain rfl:=Option.some.inj q1;exact Dm.rd _ _ (Dm.mono hE (fun b h=>rfl) _ _ (HS H0 4 _ _ _ (hx x (List.mem_of_getElem? h1)) q2))
 have hlenav:=(EI hv).1;have hparts:=W4 (E:=E) (w:=w) (ac:=ac) (sz:=sz) (ps:=l.toList) (avs:=avs) (fun j p av h1 h2=>hav (xs:=l.toList.map (·.2)) (ys:=avs) (fun x hx=>hr x (by simpa [Ci.opds] using hx)) (by rw [List.map_map]; exact hv) j p.2 av (by simp [h1]) h2) (by simpa using hlenav);have hzr:(zeroValue e).run P w=.ok zv w:=by simp [zeroValue,typeInfo,m1,m2]
 have hz0:len * sz=0→((Array.range (len * sz)).map ((#[]:Array Value)[· % (#[]:Array Value).size]!))=((List.range (len * sz)).map (zv.cells[· % sz]!)).toArray:=fun h=>by simp [h]
 have hz1:((Array.range (len * sz)).map (zv.cells[· % zv.cells.size]!))=((List.range (len * sz)).map (zv.cells[· % sz]!)).toArray:=by
  apply Array.ext';simp [hzs]
 have hrd0:B8 E w (List.replicate len (z.map .lit)).flatten ((List.range (len * sz)).map (zv.cells[· % sz]!)):=by
  have:=TO (im:=E.im) (w:=w) (z:=zv.cells) (by omega) len
  rw [hzs,← m3] at this
  have flat:∀ {es:List (List AV)} {vs:List Value},AZ E.im w sz es vs→B8 E w es.flatten vs:=by
   intro es; induction es with
   | nil=>intro vs h; simp only [AZ] at h; subst h; rfl
   | cons e es ih =>
     intro vs h;simp only [AZ] at h;obtain ⟨x,rest,rfl,_,h2,h3⟩:=h;simp only [List.flatten_cons];exact (Be.rd _ _ h2).append (ih h3)
  exact flat this
 have h10:Ft ((List.range (len * sz)).map (zv.cells[· % sz]!)):=by
  have:=W2 (z:=zv.cells) (by rw [← m3]; exact m7) (by omega) (len * sz)
  rw [hzs] at this; exact this
 obtain ⟨out,o1,o2,o3⟩:=ON (E:=E) (w:=w) (place:=fun i=>some (i * sz,sz)) (cells:=((List.range (len * sz)).map (zv.cells[· % sz]!)).toArray) (by simpa using hrd0) (by simpa using h10) hparts hf;have hos:=W3 o1;simp only [List.size_toArray,List.length_map,List.length_range] at hos;have hgr:=World.grownBy_alloc w (.cells out e) none;refine ⟨.slice (some ⟨w.heap.size,0,none⟩) len len,w.alloc (.cells out e),?_,hgr,?_,fun b hb=>by simp [Bz] at hb; omega,rfl,fun h=>by cases h⟩
 ·have hsz:(sizeOf e).run P w=.ok sz w:=by simp [sizeOf,typeInfo,m1,m4]
  have hng:¬ len * sz > 2 ^ 24:=by omega
  have hpl:(l.map fun (p:Nat × Operand)=>(p.1,ac.eval p.2)).toList=l.toList.map fun p=>(p.1,ac.eval p.2):=by simp
  have hgo:(Instr.buildSlice t len (l.map fun (p:Nat × Operand)=>(p.1,ac.eval p.2))).run P w=.ok (.slice (some ⟨w.heap.size,0,none⟩) len len) (w.alloc (.cells out e)):=by
   by_cases h:len * sz=0
   ·simp only [Instr.buildSlice,Sem.run_bind,run_underlying (Dt het) w,Result.andThen_ok,hsz,if_neg hng,if_pos h,hz0 h,hpl,o1,Sem.run_pure]
    simp [newRow]
   ·simp only [Instr.buildSlice,Sem.run_bind,run_underlying (Dt het) w,Result.andThen_ok,hsz,if_neg hng,if_neg h,hzr,hz1,hpl,o1,Sem.run_pure]
    simp [newRow]
  simp only [execOp,Sem.run_bind,hgo,Result.andThen_ok,Sem.run_pure]
 ·have hle:len≤16777216:=by
   have:=Nat.le_mul_of_pos_right len m8; omega
  refine ⟨by simp [BY],out.toList,some ⟨w.heap.size,0,none⟩,len,by simp [BY,Ds],⟨by simp [Ds]; omega,.inr ⟨w.heap.size,len,out,by simp [BY,Ds],Nat.zero_le _,heap_alloc_new w _,by simp [Ds],by unfold maxLen; omega,hos,?_⟩⟩,?_,o3,by simp [Ds,Tx]; omega⟩
  ·simp only [Ds]
   rw [List.take_of_length_le (by simp; omega)]
  ·exact AZ.mono (fun b h=>h) (fun b hb=>hgr.block b (R.heap.lt b hb) (by simp)) _ _ _ (Aaq (sz:=sz) len (Aar hp o2) (by simp; omega))) rfl
end
inductive Ap (P:Program):List SD→List AG→St→List SD→List AG→St→Prop
 | refl (acc:List SD) (l:List AG) (st:St):Ap P acc l st acc l st
 | step {s:SD} {acc:List SD} {l:List AG} {st:St} {acc':List SD} {l':List AG} {st':St}:BS P st s→Ap P (s::acc) l (st.app s) acc' l' st'→Ap P acc (s.i::l) st acc' l' st'
def RG (P:Program) (acc:List SD) (l:List AG) (st:St) (K:List SD→St→Prop):Prop:=∃ ss st',M5 P l st ss st'∧K (acc.reverse++ss) st'
theorem Ak {P:Program} {acc:List SD} {st:St} {K:List SD→St→Prop} (h:K acc.reverse st):RG P acc [] st K:=⟨[],st,.nil st,by rw [List.append_nil]; exact h⟩
theorem HT {P:Program} {acc:List SD} {l:List AG} {st:St} {acc':List SD} {l':List AG} {st':St} {K:List SD→St→Prop} (h:Ap P acc l st acc' l' st'):RG P acc' l' st' K→RG P acc l st K:=by
 induction h with
 | refl acc l st=>exact id
 | @step s acc l st acc' l' st' h hs ih =>
   intro k;obtain ⟨ss,st'',h1,h2⟩:=ih k;exact ⟨s::ss,st'',.cons h h1,by simpa using h2⟩
theorem Ap.step' {P:Program} {i:AG} {v:AV} {rd:List Nat} {upd:Hp} {nw:Nat} {l:List AG} {st:St} {acc acc':List SD} {l':List AG} {st':St} (h:BS P st ⟨i,v,rd,upd,nw⟩) (hs:Ap P (⟨i,v,rd,upd,nw⟩::acc) l (st.app ⟨i,v,rd,upd,nw⟩) acc' l' st'):Ap P acc (i::l) st acc' l' st':=.step h hs
theorem RG.step {P:Program} {i:AG} {v:AV} {rd:List Nat} {upd:Hp} {nw:Nat} {l:List AG} {st:St} {acc:List SD} {K:List SD→St→Prop} (h:BS P st ⟨i,v,rd,upd,nw⟩) (hs:RG P (⟨i,v,rd,upd,nw⟩::acc) l (st.app ⟨i,v,rd,upd,nw⟩) K):RG P acc (i::l) st K:=HT (.step h (.refl _ _ _)) hs
theorem AH {P:Program} {C:EH} {Q:Exit→St→Prop} {st:St} {d:Bool} {l:List AG} {free:List (Nat × Nat)} (h:RG P [] l st fun ss st'=>(bif d then GG ss free else true)=true∧Q .normal st'):AW P C (.ops d l free) Q st:=by
 obtain ⟨ss,st',h1,h2,h3⟩:=h;exact AlA h1 h2 h3
theorem BS.cast {P:Program} {st:St} {i:AG} {v v':AV} {rd:List Nat} {upd:Hp} {nw:Nat} (h:BS P st ⟨i,v,rd,upd,nw⟩) (e:v=v'):BS P st ⟨i,v',rd,upd,nw⟩:=e ▸ h
section
variable {P:Program} {tt:List (Nat × AV)} {hh:Hp} {nn dd:Nat} {g:Option (Nat × Bool)} {l:List AG} {acc acc':List SD} {l':List AG} {st':St}
theorem Yb {x:Operand} {v:Value} (hg:BD ⟨tt,hh,nn⟩ g) (hx:ev ⟨tt,hh,nn⟩ x=.lit v) (h:Ap P (⟨⟨some dd,g,.mov x⟩,.lit v,[],[],0⟩::acc) l ⟨(dd,.lit v)::tt,hh,nn⟩ acc' l' st'):Ap P acc (⟨some dd,g,.mov x⟩::l) ⟨tt,hh,nn⟩ acc' l' st':=Ap.step' ((TJ hg).cast (hx)) h
theorem Yc {x:Operand} {sz:Nat} {es:List (List AV)} (hg:BD ⟨tt,hh,nn⟩ g) (hx:ev ⟨tt,hh,nn⟩ x=.sl sz es) (h:Ap P (⟨⟨some dd,g,.mov x⟩,.sl sz es,[],[],0⟩::acc) l ⟨(dd,.sl sz es)::tt,hh,nn⟩ acc' l' st'):Ap P acc (⟨some dd,g,.mov x⟩::l) ⟨tt,hh,nn⟩ acc' l' st':=Ap.step' ((TJ hg).cast (hx)) h
theorem Yd {x:Operand} {id:Nat} (hg:BD ⟨tt,hh,nn⟩ g) (hx:ev ⟨tt,hh,nn⟩ x=.own id) (h:Ap P (⟨⟨some dd,g,.mov x⟩,.own id,[],[],0⟩::acc) l ⟨(dd,.own id)::tt,hh,nn⟩ acc' l' st'):Ap P acc (⟨some dd,g,.mov x⟩::l) ⟨tt,hh,nn⟩ acc' l' st':=Ap.step' ((TJ hg).cast (hx)) h
theorem Ye {x:Operand} {cs:List AV} (hg:BD ⟨tt,hh,nn⟩ g) (hx:ev ⟨tt,hh,nn⟩ x=.tup cs) (h:Ap P (⟨⟨some dd,g,.mov x⟩,.tup cs,[],[],0⟩::acc) l ⟨(dd,.tup cs)::tt,hh,nn⟩ acc' l' st'):Ap P acc (⟨some dd,g,.mov x⟩::l) ⟨tt,hh,nn⟩ acc' l' st':=Ap.step' ((TJ hg).cast (hx)) h
theorem Yf {x:Operand} {f:FuncId} {fi ca:List AV} (hg:BD ⟨tt,hh,nn⟩ g) (hx:ev ⟨tt,hh,nn⟩ x=.fn f fi ca) (h:Ap P (⟨⟨some dd,g,.mov x⟩,.fn f fi ca,[],[],0⟩::acc) l ⟨(dd,.fn f fi ca)::tt,hh,nn⟩ acc' l' st'):Ap P acc (⟨some dd,g,.mov x⟩::l) ⟨tt,hh,nn⟩ acc' l' st':=Ap.step' ((TJ hg).cast (hx)) h
theorem Yg {x:Operand}  (hg:BD ⟨tt,hh,nn⟩ g) (hx:ev ⟨tt,hh,nn⟩ x=.any) (h:Ap P (⟨⟨some dd,g,.mov x⟩,.any,[],[],0⟩::acc) l ⟨(dd,.any)::tt,hh,nn⟩ acc' l' st'):Ap P acc (⟨some dd,g,.mov x⟩::l) ⟨tt,hh,nn⟩ acc' l' st':=Ap.step' ((TJ hg).cast (hx)) h
theorem AjW {o:Ci} (hg:gNo ⟨tt,hh,nn⟩ g) (h:Ap P (⟨⟨some dd,g,o⟩,.any,[],[],0⟩::acc) l ⟨(dd,.any)::tt,hh,nn⟩ acc' l' st'):Ap P acc (⟨some dd,g,o⟩::l) ⟨tt,hh,nn⟩ acc' l' st':=Ap.step' (AjP hg) h
theorem OQ {c x y:Operand} {v:Value} (hg:BD ⟨tt,hh,nn⟩ g) (hc:ev ⟨tt,hh,nn⟩ c=.lit (.bool true)) (hx:ev ⟨tt,hh,nn⟩ x=.lit v) (h:Ap P (⟨⟨some dd,g,.pick c x y⟩,.lit v,[],[],0⟩::acc) l ⟨(dd,.lit v)::tt,hh,nn⟩ acc' l' st'):Ap P acc (⟨some dd,g,.pick c x y⟩::l) ⟨tt,hh,nn⟩ acc' l' st':=Ap.step' ((AgQ hg hc).cast (hx)) h
theorem OR {c x y:Operand} {v:Value} (hg:BD ⟨tt,hh,nn⟩ g) (hc:ev ⟨tt,hh,nn⟩ c=.lit (.bool false)) (hx:ev ⟨tt,hh,nn⟩ y=.lit v) (h:Ap P (⟨⟨some dd,g,.pick c x y⟩,.lit v,[],[],0⟩::acc) l ⟨(dd,.lit v)::tt,hh,nn⟩ acc' l' st'):Ap P acc (⟨some dd,g,.pick c x y⟩::l) ⟨tt,hh,nn⟩ acc' l' st':=Ap.step' ((AgQ hg hc).cast (hx)) h
theorem S6 {x y:Operand} {a b:Int} (hg:BD ⟨tt,hh,nn⟩ g) (hx:ev ⟨tt,hh,nn⟩ x=.lit (.int .i64 a)) (hy:ev ⟨tt,hh,nn⟩ y=.lit (.int .i64 b)) (h1 : -9223372036854775808≤a+b) (h2:a+b≤9223372036854775807) (h:Ap P (⟨⟨some dd,g,.bin .add x y⟩,.lit (.int .i64 (a+b)),[],[],0⟩::acc) l ⟨(dd,.lit (.int .i64 (a+b)))::tt,hh,nn⟩ acc' l' st'):Ap P acc (⟨some dd,g,.bin .add x y⟩::l) ⟨tt,hh,nn⟩ acc' l' st':=Ap.step' ((Eo hg hx hy rfl).cast (congrArg (fun n=>AV.lit (.int .i64 n)) (IntWalk.i64_in _ ⟨h1,h2⟩))) h
theorem S7 {x y:Operand} {a b:Int} (hg:BD ⟨tt,hh,nn⟩ g) (hx:ev ⟨tt,hh,nn⟩ x=.lit (.int .i64 a)) (hy:ev ⟨tt,hh,nn⟩ y=.lit (.int .i64 b)) (h1 : -9223372036854775808≤a - b) (h2:a - b≤9223372036854775807) (h:Ap P (⟨⟨some dd,g,.bin .sub x y⟩,.lit (.int .i64 (a - b)),[],[],0⟩::acc) l ⟨(dd,.lit (.int .i64 (a - b)))::tt,hh,nn⟩ acc' l' st'):Ap P acc (⟨some dd,g,.bin .sub x y⟩::l) ⟨tt,hh,nn⟩ acc' l' st':=Ap.step' ((Eo hg hx hy rfl).cast (congrArg (fun n=>AV.lit (.int .i64 n)) (IntWalk.i64_in _ ⟨h1,h2⟩))) h
theorem Yh {x y:Operand} {a b:Int} (hg:BD ⟨tt,hh,nn⟩ g) (hx:ev ⟨tt,hh,nn⟩ x=.lit (.int .i64 a)) (hy:ev ⟨tt,hh,nn⟩ y=.lit (.int .i64 b)) (h1 : -9223372036854775808≤a * b∧a * b≤9223372036854775807) (h:Ap P (⟨⟨some dd,g,.bin .mul x y⟩,.lit (.int .i64 (a * b)),[],[],0⟩::acc) l ⟨(dd,.lit (.int .i64 (a * b)))::tt,hh,nn⟩ acc' l' st'):Ap P acc (⟨some dd,g,.bin .mul x y⟩::l) ⟨tt,hh,nn⟩ acc' l' st':=Ap.step' ((Eo hg hx hy rfl).cast (congrArg (fun n=>AV.lit (.int .i64 n)) (IntWalk.i64_in _ h1))) h
theorem AdU {x y:Operand} {k:IntKind} {a b:Int} (hg:BD ⟨tt,hh,nn⟩ g) (hx:ev ⟨tt,hh,nn⟩ x=.lit (.int k a)) (hy:ev ⟨tt,hh,nn⟩ y=.lit (.int k b)) (h1:a<b) (h:Ap P (⟨⟨some dd,g,.bin .lss x y⟩,.lit (.bool true),[],[],0⟩::acc) l ⟨(dd,.lit (.bool true))::tt,hh,nn⟩ acc' l' st'):Ap P acc (⟨some dd,g,.bin .lss x y⟩::l) ⟨tt,hh,nn⟩ acc' l' st':=Ap.step' ((Eo hg hx hy rfl).cast (congrArg (fun n=>AV.lit (.bool n)) (decide_eq_true h1))) h
theorem AdV {x y:Operand} {k:IntKind} {a b:Int} (hg:BD ⟨tt,hh,nn⟩ g) (hx:ev ⟨tt,hh,nn⟩ x=.lit (.int k a)) (hy:ev ⟨tt,hh,nn⟩ y=.lit (.int k b)) (h1:¬ a<b) (h:Ap P (⟨⟨some dd,g,.bin .lss x y⟩,.lit (.bool false),[],[],0⟩::acc) l ⟨(dd,.lit (.bool false))::tt,hh,nn⟩ acc' l' st'):Ap P acc (⟨some dd,g,.bin .lss x y⟩::l) ⟨tt,hh,nn⟩ acc' l' st':=Ap.step' ((Eo hg hx hy rfl).cast (congrArg (fun n=>AV.lit (.bool n)) (decide_eq_false h1))) h
theorem AdW {x y:Operand} {k:IntKind} {a b:Int} (hg:BD ⟨tt,hh,nn⟩ g) (hx:ev ⟨tt,hh,nn⟩ x=.lit (.int k a)) (hy:ev ⟨tt,hh,nn⟩ y=.lit (.int k b)) (h1:a≤b) (h:Ap P (⟨⟨some dd,g,.bin .leq x y⟩,.lit (.bool true),[],[],0⟩::acc) l ⟨(dd,.lit (.bool true))::tt,hh,nn⟩ acc' l' st'):Ap P acc (⟨some dd,g,.bin .leq x y⟩::l) ⟨tt,hh,nn⟩ acc' l' st':=Ap.step' ((Eo hg hx hy rfl).cast (congrArg (fun n=>AV.lit (.bool n)) (decide_eq_true h1))) h
theorem AdX {x y:Operand} {k:IntKind} {a b:Int} (hg:BD ⟨tt,hh,nn⟩ g) (hx:ev ⟨tt,hh,nn⟩ x=.lit (.int k a)) (hy:ev ⟨tt,hh,nn⟩ y=.lit (.int k b)) (h1:¬ a≤b) (h:Ap P (⟨⟨some dd,g,.bin .leq x y⟩,.lit (.bool false),[],[],0⟩::acc) l ⟨(dd,.lit (.bool false))::tt,hh,nn⟩ acc' l' st'):Ap P acc (⟨some dd,g,.bin .leq x y⟩::l) ⟨tt,hh,nn⟩ acc' l' st':=Ap.step' ((Eo hg hx hy rfl).cast (congrArg (fun n=>AV.lit (.bool n)) (decide_eq_false h1))) h
theorem AdY {x y:Operand} {k:IntKind} {a b:Int} (hg:BD ⟨tt,hh,nn⟩ g) (hx:ev ⟨tt,hh,nn⟩ x=.lit (.int k a)) (hy:ev ⟨tt,hh,nn⟩ y=.lit (.int k b)) (h1:a > b) (h:Ap P (⟨⟨some dd,g,.bin .gtr x y⟩,.lit (.bool true),[],[],0⟩::acc) l ⟨(dd,.lit (.bool true))::tt,hh,nn⟩ acc' l' st'):Ap P acc (⟨some dd,g,.bin .gtr x y⟩::l) ⟨tt,hh,nn⟩ acc' l' st':=Ap.step' ((Eo hg hx hy rfl).cast (congrArg (fun n=>AV.lit (.bool n)) (decide_eq_true h1))) h
theorem AdZ {x y:Operand} {k:IntKind} {a b:Int} (hg:BD ⟨tt,hh,nn⟩ g) (hx:ev ⟨tt,hh,nn⟩ x=.lit (.int k a)) (hy:ev ⟨tt,hh,nn⟩ y=.lit (.int k b)) (h1:¬ a > b) (h:Ap P (⟨⟨some dd,g,.bin .gtr x y⟩,.lit (.bool false),[],[],0⟩::acc) l ⟨(dd,.lit (.bool false))::tt,hh,nn⟩ acc' l' st'):Ap P acc (⟨some dd,g,.bin .gtr x y⟩::l) ⟨tt,hh,nn⟩ acc' l' st':=Ap.step' ((Eo hg hx hy rfl).cast (congrArg (fun n=>AV.lit (.bool n)) (decide_eq_false h1))) h
theorem Ad0 {x y:Operand} {k:IntKind} {a b:Int} (hg:BD ⟨tt,hh,nn⟩ g) (hx:ev ⟨tt,hh,nn⟩ x=.lit (.int k a)) (hy:ev ⟨tt,hh,nn⟩ y=.lit (.int k b)) (h1:a ≥ b) (h:Ap P (⟨⟨some dd,g,.bin .geq x y⟩,.lit (.bool true),[],[],0⟩::acc) l ⟨(dd,.lit (.bool true))::tt,hh,nn⟩ acc' l' st'):Ap P acc (⟨some dd,g,.bin .geq x y⟩::l) ⟨tt,hh,nn⟩ acc' l' st':=Ap.step' ((Eo hg hx hy rfl).cast (congrArg (fun n=>AV.lit (.bool n)) (decide_eq_true h1))) h
theorem Ad1 {x y:Operand} {k:IntKind} {a b:Int} (hg:BD ⟨tt,hh,nn⟩ g) (hx:ev ⟨tt,hh,nn⟩ x=.lit (.int k a)) (hy:ev ⟨tt,hh,nn⟩ y=.lit (.int k b)) (h1:¬ a ≥ b) (h:Ap P (⟨⟨some dd,g,.bin .geq x y⟩,.lit (.bool false),[],[],0⟩::acc) l ⟨(dd,.lit (.bool false))::tt,hh,nn⟩ acc' l' st'):Ap P acc (⟨some dd,g,.bin .geq x y⟩::l) ⟨tt,hh,nn⟩ acc' l' st':=Ap.step' ((Eo hg hx hy rfl).cast (congrArg (fun n=>AV.lit (.bool n)) (decide_eq_false h1))) h
theorem Ad2 {x y:Operand} {k:IntKind} {a b:Int} (hg:BD ⟨tt,hh,nn⟩ g) (hx:ev ⟨tt,hh,nn⟩ x=.lit (.int k a)) (hy:ev ⟨tt,hh,nn⟩ y=.lit (.int k b)) (h1:a=b) (h:Ap P (⟨⟨some dd,g,.bin .eql x y⟩,.lit (.bool true),[],[],0⟩::acc) l ⟨(dd,.lit (.bool true))::tt,hh,nn⟩ acc' l' st'):Ap P acc (⟨some dd,g,.bin .eql x y⟩::l) ⟨tt,hh,nn⟩ acc' l' st':=Ap.step' ((Eo hg hx hy rfl).cast (congrArg (fun n=>AV.lit (.bool n)) (beq_iff_eq.2 h1))) h
theorem Ad3 {x y:Operand} {k:IntKind} {a b:Int} (hg:BD ⟨tt,hh,nn⟩ g) (hx:ev ⟨tt,hh,nn⟩ x=.lit (.int k a)) (hy:ev ⟨tt,hh,nn⟩ y=.lit (.int k b)) (h1:¬ a=b) (h:Ap P (⟨⟨some dd,g,.bin .eql x y⟩,.lit (.bool false),[],[],0⟩::acc) l ⟨(dd,.lit (.bool false))::tt,hh,nn⟩ acc' l' st'):Ap P acc (⟨some dd,g,.bin .eql x y⟩::l) ⟨tt,hh,nn⟩ acc' l' st':=Ap.step' ((Eo hg hx hy rfl).cast (congrArg (fun n=>AV.lit (.bool n)) (beq_eq_false_iff_ne.2 h1))) h
theorem Ad4 {x y:Operand} {k:IntKind} {a b:Int} (hg:BD ⟨tt,hh,nn⟩ g) (hx:ev ⟨tt,hh,nn⟩ x=.lit (.int k a)) (hy:ev ⟨tt,hh,nn⟩ y=.lit (.int k b)) (h1:¬ a=b) (h:Ap P (⟨⟨some dd,g,.bin .neq x y⟩,.lit (.bool true),[],[],0⟩::acc) l ⟨(dd,.lit (.bool true))::tt,hh,nn⟩ acc' l' st'):Ap P acc (⟨some dd,g,.bin .neq x y⟩::l) ⟨tt,hh,nn⟩ acc' l' st':=Ap.step' ((Eo hg hx hy rfl).cast (congrArg (fun n=>AV.lit (.bool n)) (bne_iff_ne.2 h1))) h
theorem Ad5 {x y:Operand} {k:IntKind} {a b:Int} (hg:BD ⟨tt,hh,nn⟩ g) (hx:ev ⟨tt,hh,nn⟩ x=.lit (.int k a)) (hy:ev ⟨tt,hh,nn⟩ y=.lit (.int k b)) (h1:a=b) (h:Ap P (⟨⟨some dd,g,.bin .neq x y⟩,.lit (.bool false),[],[],0⟩::acc) l ⟨(dd,.lit (.bool false))::tt,hh,nn⟩ acc' l' st'):Ap P acc (⟨some dd,g,.bin .neq x y⟩::l) ⟨tt,hh,nn⟩ acc' l' st':=Ap.step' ((Eo hg hx hy rfl).cast (congrArg (fun n=>AV.lit (.bool n)) (by rw [h1]; exact bne_self_eq_false _))) h
theorem Ag1 {op:BinOp} {x y:Operand} {k:IntKind} {a b:Int} {v:Value} (hg:BD ⟨tt,hh,nn⟩ g) (hx:ev ⟨tt,hh,nn⟩ x=.lit (.int k a)) (hy:ev ⟨tt,hh,nn⟩ y=.lit (.int k b)) (hv:BQ op k a b=some v) (h:Ap P (⟨⟨some dd,g,.bin op x y⟩,.lit v,[],[],0⟩::acc) l ⟨(dd,.lit v)::tt,hh,nn⟩ acc' l' st'):Ap P acc (⟨some dd,g,.bin op x y⟩::l) ⟨tt,hh,nn⟩ acc' l' st':=Ap.step' (Eo hg hx hy hv) h
theorem Ag2 {x y:Operand} {k:IntKind} {a b:Int} (hg:BD ⟨tt,hh,nn⟩ g) (hx:ev ⟨tt,hh,nn⟩ x=.lit (.int k a)) (hy:ev ⟨tt,hh,nn⟩ y=.lit (.int k b)) (hb:b≠0) (h:Ap P (⟨⟨some dd,g,.bin .quo x y⟩,.lit (.int k (k.wrap (a.tdiv b))),[],[],0⟩::acc) l ⟨(dd,.lit (.int k (k.wrap (a.tdiv b))))::tt,hh,nn⟩ acc' l' st'):Ap P acc (⟨some dd,g,.bin .quo x y⟩::l) ⟨tt,hh,nn⟩ acc' l' st':=Ap.step' (AgR hg hx hy hb) h
theorem Ag3 {x y:Operand} {k:IntKind} {a b:Int} (hg:BD ⟨tt,hh,nn⟩ g) (hx:ev ⟨tt,hh,nn⟩ x=.lit (.int k a)) (hy:ev ⟨tt,hh,nn⟩ y=.lit (.int k b)) (hb:b≠0) (h:Ap P (⟨⟨some dd,g,.bin .rem x y⟩,.lit (.int k (a.tmod b)),[],[],0⟩::acc) l ⟨(dd,.lit (.int k (a.tmod b)))::tt,hh,nn⟩ acc' l' st'):Ap P acc (⟨some dd,g,.bin .rem x y⟩::l) ⟨tt,hh,nn⟩ acc' l' st':=Ap.step' (Ali hg hx hy hb) h
theorem Yi {op:BinOp} {x y:Operand} {a b:Bool} {v:Value} (hg:BD ⟨tt,hh,nn⟩ g) (hx:ev ⟨tt,hh,nn⟩ x=.lit (.bool a)) (hy:ev ⟨tt,hh,nn⟩ y=.lit (.bool b)) (hv:S4 op a b=some v) (h:Ap P (⟨⟨some dd,g,.binB op x y⟩,.lit v,[],[],0⟩::acc) l ⟨(dd,.lit v)::tt,hh,nn⟩ acc' l' st'):Ap P acc (⟨some dd,g,.binB op x y⟩::l) ⟨tt,hh,nn⟩ acc' l' st':=Ap.step' (AlB hg hx hy hv) h
theorem Ad6 {x:Operand} {b:Bool} (hg:BD ⟨tt,hh,nn⟩ g) (hx:ev ⟨tt,hh,nn⟩ x=.lit (.bool b)) (h:Ap P (⟨⟨some dd,g,.un .not x⟩,.lit (.bool !b),[],[],0⟩::acc) l ⟨(dd,.lit (.bool !b))::tt,hh,nn⟩ acc' l' st'):Ap P acc (⟨some dd,g,.un .not x⟩::l) ⟨tt,hh,nn⟩ acc' l' st':=Ap.step' (AgS hg hx) h
theorem Yj {x:Operand} (hg:BD ⟨tt,hh,nn⟩ g) (hx:ev ⟨tt,hh,nn⟩ x=.lit (.bool true)) (h:Ap P (⟨⟨some dd,g,.un .not x⟩,.lit (.bool false),[],[],0⟩::acc) l ⟨(dd,.lit (.bool false))::tt,hh,nn⟩ acc' l' st'):Ap P acc (⟨some dd,g,.un .not x⟩::l) ⟨tt,hh,nn⟩ acc' l' st':=Ap.step' (AgS hg hx) h
theorem Yk {x:Operand} (hg:BD ⟨tt,hh,nn⟩ g) (hx:ev ⟨tt,hh,nn⟩ x=.lit (.bool false)) (h:Ap P (⟨⟨some dd,g,.un .not x⟩,.lit (.bool true),[],[],0⟩::acc) l ⟨(dd,.lit (.bool true))::tt,hh,nn⟩ acc' l' st'):Ap P acc (⟨some dd,g,.un .not x⟩::l) ⟨tt,hh,nn⟩ acc' l' st':=Ap.step' (AgS hg hx) h
theorem Ad7 {x:Operand} {a:Int} (hg:BD ⟨tt,hh,nn⟩ g) (hx:ev ⟨tt,hh,nn⟩ x=.lit (.int .i64 a)) (h1 : -9223372036854775808 ≤ -a) (h2 : -a≤9223372036854775807) (h:Ap P (⟨⟨some dd,g,.un .neg x⟩,.lit (.int .i64 (-a)),[],[],0⟩::acc) l ⟨(dd,.lit (.int .i64 (-a)))::tt,hh,nn⟩ acc' l' st'):Ap P acc (⟨some dd,g,.un .neg x⟩::l) ⟨tt,hh,nn⟩ acc' l' st':=Ap.step' ((AgT hg hx).cast (congrArg (fun n=>AV.lit (.int .i64 n)) (by rw [IntWalk.i64_in _ (by omega)]; omega))) h
theorem AmT {x:Operand} {k:IntKind} {a:Int} (hg:BD ⟨tt,hh,nn⟩ g) (hx:ev ⟨tt,hh,nn⟩ x=.lit (.int k a)) (h:Ap P (⟨⟨some dd,g,.un .neg x⟩,.lit (.int k (k.wrap (0 - a))),[],[],0⟩::acc) l ⟨(dd,.lit (.int k (k.wrap (0 - a))))::tt,hh,nn⟩ acc' l' st'):Ap P acc (⟨some dd,g,.un .neg x⟩::l) ⟨tt,hh,nn⟩ acc' l' st':=Ap.step' (AgT hg hx) h
theorem OS {x:Operand} {k0:IntKind} {a:Int} (hg:BD ⟨tt,hh,nn⟩ g) (hx:ev ⟨tt,hh,nn⟩ x=.lit (.int k0 a)) (h1 : -9223372036854775808≤a) (h2:a≤9223372036854775807) (h:Ap P (⟨⟨some dd,g,.conv .i64 x⟩,.lit (.int .i64 a),[],[],0⟩::acc) l ⟨(dd,.lit (.int .i64 a))::tt,hh,nn⟩ acc' l' st'):Ap P acc (⟨some dd,g,.conv .i64 x⟩::l) ⟨tt,hh,nn⟩ acc' l' st':=Ap.step' ((TK hg hx).cast (congrArg (fun n=>AV.lit (.int .i64 n)) (IntWalk.i64_in _ ⟨h1,h2⟩))) h
theorem AcE {x:Operand} {k k0:IntKind} {a:Int} (hg:BD ⟨tt,hh,nn⟩ g) (hx:ev ⟨tt,hh,nn⟩ x=.lit (.int k0 a)) (h:Ap P (⟨⟨some dd,g,.conv k x⟩,.lit (.int k (k.wrap a)),[],[],0⟩::acc) l ⟨(dd,.lit (.int k (k.wrap a)))::tt,hh,nn⟩ acc' l' st'):Ap P acc (⟨some dd,g,.conv k x⟩::l) ⟨tt,hh,nn⟩ acc' l' st':=Ap.step' (TK hg hx) h
theorem S8 {x:Operand} {off id i off':Nat} (hg:BD ⟨tt,hh,nn⟩ g) (hx:ev ⟨tt,hh,nn⟩ x=.optr id i off') (h:Ap P (⟨⟨some dd,g,.faddr off x⟩,.optr id i (off'+off),[],[],0⟩::acc) l ⟨(dd,.optr id i (off'+off))::tt,hh,nn⟩ acc' l' st'):Ap P acc (⟨some dd,g,.faddr off x⟩::l) ⟨tt,hh,nn⟩ acc' l' st':=Ap.step' (AjQ hg hx) h
theorem OT {x:Operand} {off sz i off':Nat} {es:List (List AV)} (hg:BD ⟨tt,hh,nn⟩ g) (hx:ev ⟨tt,hh,nn⟩ x=.ep sz es i off') (h:Ap P (⟨⟨some dd,g,.faddr off x⟩,.ep sz es i (off'+off),[],[],0⟩::acc) l ⟨(dd,.ep sz es i (off'+off))::tt,hh,nn⟩ acc' l' st'):Ap P acc (⟨some dd,g,.faddr off x⟩::l) ⟨tt,hh,nn⟩ acc' l' st':=Ap.step' (AgU hg hx) h
theorem Ad8 {e:List AV} {off:Nat} {v:AV} (h:e[off]? = some v):cut e off 1=some [v]:=by
 obtain ⟨h1,h2⟩:=List.getElem?_eq_some_iff.1 h
 have:Nat.ble (off+1) e.length=true:=by rw [Nat.ble_eq]; exact h1
 simp only [cut,this,cond_true];rw [List.drop_eq_getElem_cons h1,h2]; rfl
theorem Ad9 {e:List AV} {n:Nat} (h:e.length=n):cut e 0 n=some e:=by
 subst h
 have:Nat.ble (0+e.length) e.length=true:=by rw [Nat.ble_eq]; omega
 simp only [cut,this,cond_true,List.drop_zero,List.take_length]
theorem GI {x:Operand} {id i off:Nat} {ob:OB} {e:List AV} {v:AV} (hg:BD ⟨tt,hh,nn⟩ g) (hx:ev ⟨tt,hh,nn⟩ x=.optr id i off) (ho:hl hh id=some ob) (he:ob.es[i]? = some e) (hv:e[off]? = some v) (h:Ap P (⟨⟨some dd,g,.load false 1 x⟩,v,[id],[],0⟩::acc) l ⟨(dd,v)::tt,hh,nn⟩ acc' l' st'):Ap P acc (⟨some dd,g,.load false 1 x⟩::l) ⟨tt,hh,nn⟩ acc' l' st':=Ap.step' (AcC hg hx ho he (Ad8 hv) rfl) h
theorem Jv {n:Nat} {x:Operand} {id i:Nat} {ob:OB} {e:List AV} (hg:BD ⟨tt,hh,nn⟩ g) (hx:ev ⟨tt,hh,nn⟩ x=.optr id i 0) (ho:hl hh id=some ob) (he:ob.es[i]? = some e) (hn:e.length=n) (h:Ap P (⟨⟨some dd,g,.load true n x⟩,.agg e,[id],[],0⟩::acc) l ⟨(dd,.agg e)::tt,hh,nn⟩ acc' l' st'):Ap P acc (⟨some dd,g,.load true n x⟩::l) ⟨tt,hh,nn⟩ acc' l' st':=Ap.step' (AcC hg hx ho he (Ad9 hn) rfl) h
theorem Jw {n:Nat} {x:Operand} {id i off:Nat} {ob:OB} {e cs:List AV} (hg:BD ⟨tt,hh,nn⟩ g) (hx:ev ⟨tt,hh,nn⟩ x=.optr id i off) (ho:hl hh id=some ob) (he:ob.es[i]? = some e) (hc:cut e off n=some cs) (h:Ap P (⟨⟨some dd,g,.load true n x⟩,.agg cs,[id],[],0⟩::acc) l ⟨(dd,.agg cs)::tt,hh,nn⟩ acc' l' st'):Ap P acc (⟨some dd,g,.load true n x⟩::l) ⟨tt,hh,nn⟩ acc' l' st':=Ap.step' (AcC hg hx ho he hc rfl) h
theorem IT {x:Operand} {sz i off:Nat} {es:List (List AV)} {e:List AV} {v:AV} (hg:BD ⟨tt,hh,nn⟩ g) (hx:ev ⟨tt,hh,nn⟩ x=.ep sz es i off) (he:es[i]? = some e) (hv:e[off]? = some v) (h:Ap P (⟨⟨some dd,g,.load false 1 x⟩,v,[],[],0⟩::acc) l ⟨(dd,v)::tt,hh,nn⟩ acc' l' st'):Ap P acc (⟨some dd,g,.load false 1 x⟩::l) ⟨tt,hh,nn⟩ acc' l' st':=Ap.step' (AdP hg hx he (Ad8 hv) rfl) h
theorem OU {n:Nat} {x:Operand} {sz i:Nat} {es:List (List AV)} {e:List AV} (hg:BD ⟨tt,hh,nn⟩ g) (hx:ev ⟨tt,hh,nn⟩ x=.ep sz es i 0) (he:es[i]? = some e) (hn:e.length=n) (h:Ap P (⟨⟨some dd,g,.load true n x⟩,.agg e,[],[],0⟩::acc) l ⟨(dd,.agg e)::tt,hh,nn⟩ acc' l' st'):Ap P acc (⟨some dd,g,.load true n x⟩::l) ⟨tt,hh,nn⟩ acc' l' st':=Ap.step' (AdP hg hx he (Ad9 hn) rfl) h
theorem LP {i:Nat} {x:Operand} {vs:List AV} {v:AV} (hg:BD ⟨tt,hh,nn⟩ g) (hx:ev ⟨tt,hh,nn⟩ x=.tup vs) (hv:vs[i]? = some v) (h:Ap P (⟨⟨some dd,g,.extract i x⟩,v,[],[],0⟩::acc) l ⟨(dd,v)::tt,hh,nn⟩ acc' l' st'):Ap P acc (⟨some dd,g,.extract i x⟩::l) ⟨tt,hh,nn⟩ acc' l' st':=Ap.step' (Afz hg hx hv) h
theorem OV {off n:Nat} {x:Operand} {cs cs':List AV} (hg:BD ⟨tt,hh,nn⟩ g) (hx:ev ⟨tt,hh,nn⟩ x=.agg cs) (hc:cut cs off n=some cs') (h:Ap P (⟨⟨some dd,g,.field true off n x⟩,.agg cs',[],[],0⟩::acc) l ⟨(dd,.agg cs')::tt,hh,nn⟩ acc' l' st'):Ap P acc (⟨some dd,g,.field true off n x⟩::l) ⟨tt,hh,nn⟩ acc' l' st':=Ap.step' (AjR hg hx hc rfl) h
theorem Aea {x:Operand} {sz:Nat} {es:List (List AV)} {n:Int} (hg:BD ⟨tt,hh,nn⟩ g) (hx:ev ⟨tt,hh,nn⟩ x=.sl sz es) (hn:(es.length:Int)=n) (h:Ap P (⟨⟨some dd,g,.len x⟩,.lit (.int .i64 n),[],[],0⟩::acc) l ⟨(dd,.lit (.int .i64 n))::tt,hh,nn⟩ acc' l' st'):Ap P acc (⟨some dd,g,.len x⟩::l) ⟨tt,hh,nn⟩ acc' l' st':=Ap.step' ((AmR hg hx).cast (by rw [hn])) h
theorem Yl {x:Operand} {id:Nat} {ob:OB} {n:Int} (hg:BD ⟨tt,hh,nn⟩ g) (hx:ev ⟨tt,hh,nn⟩ x=.own id) (ho:hl hh id=some ob) (hr:ob.row=true) (hn:(ob.es.length:Int)=n) (h:Ap P (⟨⟨some dd,g,.len x⟩,.lit (.int .i64 n),[id],[],0⟩::acc) l ⟨(dd,.lit (.int .i64 n))::tt,hh,nn⟩ acc' l' st'):Ap P acc (⟨some dd,g,.len x⟩::l) ⟨tt,hh,nn⟩ acc' l' st':=Ap.step' ((AlD hg hx ho hr).cast (by rw [hn])) h
theorem LQ {sz:Nat} {x y:Operand} {es:List (List AV)} {k:IntKind} {z:Int} (hg:BD ⟨tt,hh,nn⟩ g) (hx:ev ⟨tt,hh,nn⟩ x=.sl sz es) (hy:ev ⟨tt,hh,nn⟩ y=.lit (.int k z)) (h0:0≤z) (h1:z<es.length) (h:Ap P (⟨⟨some dd,g,.iaddr sz x y⟩,.ep sz es z.toNat 0,[],[],0⟩::acc) l ⟨(dd,.ep sz es z.toNat 0)::tt,hh,nn⟩ acc' l' st'):Ap P acc (⟨some dd,g,.iaddr sz x y⟩::l) ⟨tt,hh,nn⟩ acc' l' st':=Ap.step' (AjT hg hx hy h0 h1) h
theorem Ha {sz id:Nat} {x y:Operand} {ob:OB} {k:IntKind} {z:Int} (hg:BD ⟨tt,hh,nn⟩ g) (hx:ev ⟨tt,hh,nn⟩ x=.own id) (ho:hl hh id=some ob) (hr:ob.row=true) (hs:ob.sz=sz) (hy:ev ⟨tt,hh,nn⟩ y=.lit (.int k z)) (h0:0≤z) (h1:z<ob.es.length) (h:Ap P (⟨⟨some dd,g,.iaddr sz x y⟩,.optr id z.toNat 0,[id],[],0⟩::acc) l ⟨(dd,.optr id z.toNat 0)::tt,hh,nn⟩ acc' l' st'):Ap P acc (⟨some dd,g,.iaddr sz x y⟩::l) ⟨tt,hh,nn⟩ acc' l' st':=Ap.step' (AgW hg hx ho hr hs hy h0 h1) h
theorem Ym {f:FuncId} {fi ca:List Operand} (hg:BD ⟨tt,hh,nn⟩ g)  (h:Ap P (⟨⟨some dd,g,.mkfn f fi ca⟩,.fn f (fi.map (ev ⟨tt,hh,nn⟩)) (ca.map (ev ⟨tt,hh,nn⟩)),[],[],0⟩::acc) l ⟨(dd,.fn f (fi.map (ev ⟨tt,hh,nn⟩)) (ca.map (ev ⟨tt,hh,nn⟩)))::tt,hh,nn⟩ acc' l' st'):Ap P acc (⟨some dd,g,.mkfn f fi ca⟩::l) ⟨tt,hh,nn⟩ acc' l' st':=Ap.step' (AlE hg) h
theorem Yn {fo:Operand} {args:List Operand} {f:FuncId} {fi ca avs avs':List AV} {r:AV} (ro:Bool) (rd:List Nat) (hg:BD ⟨tt,hh,nn⟩ g) (hf:ev ⟨tt,hh,nn⟩ fo=.fn f fi ca) (hv:AR (C4 ro (restr rd hh) 4) (fi++(args.map (ev ⟨tt,hh,nn⟩)++ca))=some avs) (hc:Ae P f avs' r) (hs:BE avs avs') (hro:(ro || Aan r)=true) (h:Ap P (⟨⟨some dd,g,.call fo args⟩,r,rd,[],0⟩::acc) l ⟨(dd,r)::tt,hh,nn⟩ acc' l' st'):Ap P acc (⟨some dd,g,.call fo args⟩::l) ⟨tt,hh,nn⟩ acc' l' st':=Ap.step' (Qx ro rd hg hf hv hs hc hro) h
theorem S9 {e:TypeId} {z:List Value} (hg:BD ⟨tt,hh,nn⟩ g)  (h:Ap P (⟨⟨some dd,g,.alloc e z⟩,.optr nn 0 0,[],[(nn,some ⟨false,false,e,z.length,[z.map .lit]⟩)],1⟩::acc) l ⟨(dd,.optr nn 0 0)::tt,(nn,some ⟨false,false,e,z.length,[z.map .lit]⟩)::hh,nn+1⟩ acc' l' st'):Ap P acc (⟨some dd,g,.alloc e z⟩::l) ⟨tt,hh,nn⟩ acc' l' st':=Ap.step' (AjU hg) h
theorem Aeb {e:TypeId} {n:Nat} {x:Operand} {av:AV} {cs:List AV} (hg:BD ⟨tt,hh,nn⟩ g) (hx:ev ⟨tt,hh,nn⟩ x=av) (hc:Dc av=some cs) (hn:cs.length=n) (h:Ap P (⟨⟨some dd,g,.box e n x⟩,.optr nn 0 0,[],[(nn,some ⟨false,false,e,n,[cs]⟩)],1⟩::acc) l ⟨(dd,.optr nn 0 0)::tt,(nn,some ⟨false,false,e,n,[cs]⟩)::hh,nn+1⟩ acc' l' st'):Ap P acc (⟨some dd,g,.box e n x⟩::l) ⟨tt,hh,nn⟩ acc' l' st':=Ap.step' (AmS hg hx hc hn) h
theorem Ta {z:List Value} {ps:List (Nat × Nat × Operand)} {cs:List AV} (hg:BD ⟨tt,hh,nn⟩ g) (hf:OM (z.map .lit) (ps.map fun p=>(p.1,p.2.1,ev ⟨tt,hh,nn⟩ p.2.2))=some cs) (h:Ap P (⟨⟨some dd,g,.build z ps⟩,.agg cs,[],[],0⟩::acc) l ⟨(dd,.agg cs)::tt,hh,nn⟩ acc' l' st'):Ap P acc (⟨some dd,g,.build z ps⟩::l) ⟨tt,hh,nn⟩ acc' l' st':=Ap.step' (AjV hg hf) h
theorem AcF {e:TypeId} {sz by_:Nat} {z:List Value} {lo c:Operand} {kl kc:IntKind} {L M:Int} (hg:BD ⟨tt,hh,nn⟩ g) (hl':ev ⟨tt,hh,nn⟩ lo=.lit (.int kl L)) (hc:ev ⟨tt,hh,nn⟩ c=.lit (.int kc M)) (h0:0≤L) (h1:L≤M) (hb:(by_:Int) * M≤281474976710656) (h:Ap P (⟨⟨some dd,g,.make e sz by_ z lo c⟩,.own nn,[],[(nn,some ⟨true,false,e,sz,List.replicate L.toNat (z.map .lit)⟩)],1⟩::acc) l ⟨(dd,.own nn)::tt,(nn,some ⟨true,false,e,sz,List.replicate L.toNat (z.map .lit)⟩)::hh,nn+1⟩ acc' l' st'):Ap P acc (⟨some dd,g,.make e sz by_ z lo c⟩::l) ⟨tt,hh,nn⟩ acc' l' st':=Ap.step' (Ag0 hg hl' hc h0 h1 hb) h
theorem TP {e:TypeId} {sz len:Nat} {z:List Value} {ps:List (Nat × Operand)} {avs cs cs':List AV} {es:List (List AV)} (rd:List Nat) (hg:BD ⟨tt,hh,nn⟩ g) (hv:AR (C4 true (restr rd hh) 4) (ps.map fun p=>ev ⟨tt,hh,nn⟩ p.2)=some avs) (hf:OM (List.replicate len (z.map .lit)).flatten ((ps.zip avs).map fun p=>(p.1.1 * sz,sz,p.2))=some cs) (hp:Ij (fun _=>none) cs=some cs') (he:Ep sz len cs'=es) (h:Ap P (⟨⟨some dd,g,.rowlit e sz len z ps⟩,.own nn,rd,[(nn,some ⟨true,false,e,sz,es⟩)],1⟩::acc) l ⟨(dd,.own nn)::tt,(nn,some ⟨true,false,e,sz,es⟩)::hh,nn+1⟩ acc' l' st'):Ap P acc (⟨some dd,g,.rowlit e sz len z ps⟩::l) ⟨tt,hh,nn⟩ acc' l' st':=Ap.step' (he ▸ Aau rd hg hv hf hp) h
theorem OW {e:TypeId} {sz by_ id:Nat} {z:List Value} {s x:Operand} {ob:OB} {av:AV} {news:List (List AV)} (rd:List Nat) (hg:BD ⟨tt,hh,nn⟩ g) (hs:ev ⟨tt,hh,nn⟩ s=.own id) (ho:hl hh id=some ob) (hr:ob.row=true) (hro:ob.ro=false) (hsz:ob.sz=sz) (he:ob.e=e) (hx:ev ⟨tt,hh,nn⟩ x=av) (hn:G9 (restr rd hh) sz av=some news) (hb:(ob.es.length+news.length) * by_≤140737488355328) (h:Ap P (⟨⟨some dd,g,.append e sz by_ z s x⟩,.own nn,rd,[(nn,some ⟨true,false,e,sz,ob.es++news⟩),(id,none)],1⟩::acc) l ⟨(dd,.own nn)::tt,(nn,some ⟨true,false,e,sz,ob.es++news⟩)::(id,none)::hh,nn+1⟩ acc' l' st'):Ap P acc (⟨some dd,g,.append e sz by_ z s x⟩::l) ⟨tt,hh,nn⟩ acc' l' st':=Ap.step' (Aat rd hg hs ho hr hro hsz he hx hn hb) h
theorem Qy {e:TypeId} {sz by_:Nat} {z:List Value} {s x:Operand} {av:AV} {news:List (List AV)} (rd:List Nat) (hg:BD ⟨tt,hh,nn⟩ g) (hs:ev ⟨tt,hh,nn⟩ s=.lit (.slice none 0 0)) (hx:ev ⟨tt,hh,nn⟩ x=av) (hn:G9 (restr rd hh) sz av=some news) (hb:news.length * by_≤140737488355328) (h:Ap P (⟨⟨some dd,g,.append e sz by_ z s x⟩,.own nn,rd,[(nn,some ⟨true,false,e,sz,news⟩)],1⟩::acc) l ⟨(dd,.own nn)::tt,(nn,some ⟨true,false,e,sz,news⟩)::hh,nn+1⟩ acc' l' st'):Ap P acc (⟨some dd,g,.append e sz by_ z s x⟩::l) ⟨tt,hh,nn⟩ acc' l' st':=Ap.step' (W0 rd hg hs hx hn hb) h
theorem IU {n id off:Nat} {p x:Operand} {ob:OB} {av:AV} {e cs e':List AV} (hg:BD ⟨tt,hh,nn⟩ g) (hp:ev ⟨tt,hh,nn⟩ p=.optr id 0 off) (ho:hl hh id=some ob) (hrow:ob.row=false) (hro:ob.ro=false) (he:ob.es=[e]) (hx:ev ⟨tt,hh,nn⟩ x=av) (hc:Dc av=some cs) (hn:cs.length=n) (hle:Nat.ble (off+n) e.length=true) (he':e.take off++(cs++e.drop (off+n))=e') (h:Ap P (⟨⟨none,g,.store n p x⟩,.any,[],[(id,some { ob with es:=[e'] })],0⟩::acc) l ⟨tt,(id,some { ob with es:=[e'] })::hh,nn⟩ acc' l' st'):Ap P acc (⟨none,g,.store n p x⟩::l) ⟨tt,hh,nn⟩ acc' l' st':=Ap.step' (he' ▸ AgY hg hp ho hrow hro he hx hc hn hle) h
theorem TQ {n id i off:Nat} {p x:Operand} {ob:OB} {av av':AV} {e cs cs':List AV} (rd:List Nat) (hg:BD ⟨tt,hh,nn⟩ g) (hp:ev ⟨tt,hh,nn⟩ p=.optr id i off) (ho:hl hh id=some ob) (hrow:ob.row=true) (hro:ob.ro=false) (he:ob.es[i]? = some e) (hx:ev ⟨tt,hh,nn⟩ x=av) (hv:C4 true (restr rd hh) 4 av=some av') (hc:Dc av'=some cs) (hpu:Ij (fun _=>none) cs=some cs') (hn:cs.length=n) (hle:Nat.ble (off+n) e.length=true) (h:Ap P (⟨⟨none,g,.store n p x⟩,.any,rd,[(id,some { ob with es:=ob.es.set i (e.take off++(cs'++e.drop (off+n))) })],0⟩::acc) l ⟨tt,(id,some { ob with es:=ob.es.set i (e.take off++(cs'++e.drop (off+n))) })::hh,nn⟩ acc' l' st'):Ap P acc (⟨none,g,.store n p x⟩::l) ⟨tt,hh,nn⟩ acc' l' st':=Ap.step' (AgZ rd hg hp ho hrow hro he hx hv hc hpu hn hle) h
end
theorem Alj {P:Program} {acc:List SD} {l:List AG} {st:St} {acc':List SD} {l':List AG} {st':St} (hR:Ap P acc l st acc' l' st':=by
 ((repeat (first
   | apply Yb (by first|exact True.intro|rfl) (by exact rfl)
   | apply Yc (by first|exact True.intro|rfl) (by exact rfl)
   | apply Yd (by first|exact True.intro|rfl) (by exact rfl)
   | apply Ye (by first|exact True.intro|rfl) (by exact rfl)
   | apply Yf (by first|exact True.intro|rfl) (by exact rfl)
   | apply Yg (by first|exact True.intro|rfl) (by exact rfl)
   | apply AjW (by exact rfl)
   | apply S6 (by first|exact True.intro|rfl) (by exact rfl) (by exact rfl) (by omega) (by omega)
   | apply S7 (by first|exact True.intro|rfl) (by exact rfl) (by exact rfl) (by omega) (by omega)
   | apply AdU (by first|exact True.intro|rfl) (by exact rfl) (by exact rfl) (by omega)
   | apply AdV (by first|exact True.intro|rfl) (by exact rfl) (by exact rfl) (by omega)
   | apply AdW (by first|exact True.intro|rfl) (by exact rfl) (by exact rfl) (by omega)
   | apply AdX (by first|exact True.intro|rfl) (by exact rfl) (by exact rfl) (by omega)
   | apply AdY (by first|exact True.intro|rfl) (by exact rfl) (by exact rfl) (by omega)
   | apply AdZ (by first|exact True.intro|rfl) (by exact rfl) (by exact rfl) (by omega)
   | apply Ad0 (by first|exact True.intro|rfl) (by exact rfl) (by exact rfl) (by omega)
   | apply Ad1 (by first|exact True.intro|rfl) (by exact rfl) (by exact rfl) (by omega)
   | apply Ad2 (by first|exact True.intro|rfl) (by exact rfl) (by exact rfl) (by omega)
   | apply Ad3 (by first|exact True.intro|rfl) (by exact rfl) (by exact rfl) (by omega)
   | apply Ad4 (by first|exact True.intro|rfl) (by exact rfl) (by exact rfl) (by omega)
   | apply Ad5 (by first|exact True.intro|rfl) (by exact rfl) (by exact rfl) (by omega)
   | apply Ag1 (by first|exact True.intro|rfl) (by exact rfl) (by exact rfl) (by exact rfl)
   | apply Ag2 (by first|exact True.intro|rfl) (by exact rfl) (by exact rfl) (by omega)
   | apply Ag3 (by first|exact True.intro|rfl) (by exact rfl) (by exact rfl) (by omega)
   | apply Yi (by first|exact True.intro|rfl) (by exact rfl) (by exact rfl) (by exact rfl)
   | apply Yj (by first|exact True.intro|rfl) (by exact rfl)
   | apply Yk (by first|exact True.intro|rfl) (by exact rfl)
   | apply Ad6 (by first|exact True.intro|rfl) (by exact rfl)
   | apply OQ (by first|exact True.intro|rfl) (by exact rfl) (by exact rfl)
   | apply OR (by first|exact True.intro|rfl) (by exact rfl) (by exact rfl)
   | apply OS (by first|exact True.intro|rfl) (by exact rfl) (by omega) (by omega)
   | apply AcE (by first|exact True.intro|rfl) (by exact rfl)
   | apply S8 (by first|exact True.intro|rfl) (by exact rfl)
   | apply OT (by first|exact True.intro|rfl) (by exact rfl)
   | apply GI (by first|exact True.intro|rfl) (by exact rfl) (by exact rfl) (by exact rfl) (by exact rfl)
   | apply Jv (by first|exact True.intro|rfl) (by exact rfl) (by exact rfl) (by exact rfl) (by exact rfl)
   | apply Jw (by first|exact True.intro|rfl) (by exact rfl) (by exact rfl) (by exact rfl) (by exact rfl)
   | apply IT (by first|exact True.intro|rfl) (by exact rfl) (by first|assumption|rfl) (by exact rfl)
   | apply OU (by first|exact True.intro|rfl) (by exact rfl) (by first|assumption|rfl) (by exact rfl)
   | apply LP (by first|exact True.intro|rfl) (by exact rfl) (by exact rfl)
   | apply OV (by first|exact True.intro|rfl) (by exact rfl) (by exact rfl)
   | apply Aea (by first|exact True.intro|rfl) (by exact rfl) (by first|assumption|rfl)
   | apply Yl (by first|exact True.intro|rfl) (by exact rfl) (by exact rfl) (by exact rfl) (by first|assumption|rfl)
   | apply LQ (by first|exact True.intro|rfl) (by exact rfl) (by exact rfl) (by omega) (by first|omega|assumption)
   | apply Ha (by first|exact True.intro|rfl) (by exact rfl) (by exact rfl) (by exact rfl) (by exact rfl) (by exact rfl) (by omega) (by first|omega|(dsimp only; omega))
   | apply Ym (by first|exact True.intro|rfl)
   | apply S9 (by first|exact True.intro|rfl)
   | apply Aeb (by first|exact True.intro|rfl) (by exact rfl) (by exact rfl) (by exact rfl)
   | apply Ta (by first|exact True.intro|rfl) (by exact rfl)
   | apply IU (by first|exact True.intro|rfl) (by exact rfl) (by exact rfl) (by exact rfl) (by exact rfl) (by exact rfl) (by exact rfl) (by exact rfl) (by exact rfl) (by exact rfl) (by exact rfl))); exact Ap.refl _ _ _)):Ap P acc l st acc' l' st':=hR
theorem A1 {P:Program} {acc:List SD} {l:List AG} {st:St} {acc':List SD} {l':List AG} {st':St} {K:List SD→St→Prop} (h:RG P acc' l' st' K) (hR:Ap P acc l st acc' l' st':=by exact Alj):RG P acc l st K:=HT hR h
theorem Anl {P:Program} {C:EH} {Q:Exit→St→Prop} {st:St} {d:Bool} {l:List AG} {free:List (Nat × Nat)} {acc:List SD} {st':St} (hQ:Q .normal st') (hR:Ap P [] l st acc [] st':=by exact Alj) (hi:(bif d then GG acc.reverse free else true)=true:=by rfl):AW P C (.ops d l free) Q st:=AH (HT hR (Ak ⟨hi,hQ⟩))
structure AjX (p:Prop):Prop where
 out:p
theorem AI {P:Program} {C:EH} {Q:Exit→St→Prop} {st:St} {c:Bi} {G:Prop} (hG:G) (h:AjX G→AW P C c Q st:=by
 (intro hG; repeat (first|refine Gh ?_|refine OH ?_|refine OF ?_|refine S2 ?_|refine X7 ?_|refine Ge rfl ?_|refine IP rfl ?_|refine Anl ?_)
  exact hG.out)):AW P C c Q st:=h ⟨hG⟩
section
variable {P:Program} {tt:List (Nat × AV)} {hh:Hp} {nn dd:Nat} {g:Option (Nat × Bool)} {l:List AG} {acc:List SD} {K:List SD→St→Prop}
theorem Aec {fo:Operand} {args:List Operand} {f:FuncId} {fi ca avs avs':List AV} {r:AV} (ro:Bool) (rd:List Nat) (hc:Ae P f avs' r) (h:RG P (⟨⟨some dd,g,.call fo args⟩,r,rd,[],0⟩::acc) l ⟨(dd,r)::tt,hh,nn⟩ K) (hg:BD ⟨tt,hh,nn⟩ g:=by first|exact True.intro|rfl) (hf:ev ⟨tt,hh,nn⟩ fo=.fn f fi ca:=by rfl) (hv:AR (C4 ro (restr (rd) hh) 4) (fi++(args.map (ev ⟨tt,hh,nn⟩)++ca))=some avs:=by rfl) (hs:BE avs avs':=by (repeat (first|exact BE.nil|refine BE.cons (by first|exact Bl.refl _|exact Bl.nil _|exact Bl.any _|(refine Bl.agg ?_; repeat (first|exact BE.nil|refine BE.cons (by first|exact Bl.refl _|exact Bl.nil _) ?_))) ?_))) (hro:(ro || Aan r)=true:=by rfl):RG P acc (⟨some dd,g,.call fo args⟩::l) ⟨tt,hh,nn⟩ K:=RG.step (Qx ro rd hg hf hv hs hc hro) h
theorem B3 {fo:Operand} {args:List Operand} {f:FuncId} {fi ca avs avs':List AV} {r:AV}   (hc:Ae P f avs' r) (h:RG P (⟨⟨some dd,g,.call fo args⟩,r,[],[],0⟩::acc) l ⟨(dd,r)::tt,hh,nn⟩ K) (hg:BD ⟨tt,hh,nn⟩ g:=by first|exact True.intro|rfl) (hf:ev ⟨tt,hh,nn⟩ fo=.fn f fi ca:=by rfl) (hv:AR (C4 true (restr ([]) hh) 4) (fi++(args.map (ev ⟨tt,hh,nn⟩)++ca))=some avs:=by rfl) (hs:BE avs avs':=by (repeat (first|exact BE.nil|refine BE.cons (by first|exact Bl.refl _|exact Bl.nil _|exact Bl.any _|(refine Bl.agg ?_; repeat (first|exact BE.nil|refine BE.cons (by first|exact Bl.refl _|exact Bl.nil _) ?_))) ?_))) (hro:(true || Aan r)=true:=by rfl):RG P acc (⟨some dd,g,.call fo args⟩::l) ⟨tt,hh,nn⟩ K:=RG.step (Qx true [] hg hf hv hs hc hro) h
theorem Hb {e:TypeId} {sz len:Nat} {z:List Value} {ps:List (Nat × Operand)} {avs cs cs':List AV} {es:List (List AV)}   (h:RG P (⟨⟨some dd,g,.rowlit e sz len z ps⟩,.own nn,[],[(nn,some ⟨true,false,e,sz,es⟩)],1⟩::acc) l ⟨(dd,.own nn)::tt,(nn,some ⟨true,false,e,sz,es⟩)::hh,nn+1⟩ K) (hg:BD ⟨tt,hh,nn⟩ g:=by first|exact True.intro|rfl) (hv:AR (C4 true (restr [] hh) 4) (ps.map fun p=>ev ⟨tt,hh,nn⟩ p.2)=some avs:=by rfl) (hf:OM (List.replicate len (z.map .lit)).flatten ((ps.zip avs).map fun p=>(p.1.1 * sz,sz,p.2))=some cs:=by rfl) (hp:Ij (fun _=>none) cs=some cs':=by rfl) (he:Ep sz len cs'=es:=by rfl):RG P acc (⟨some dd,g,.rowlit e sz len z ps⟩::l) ⟨tt,hh,nn⟩ K:=RG.step (he ▸ Aau [] hg hv hf hp) h
theorem OX {e:TypeId} {sz by_ id:Nat} {z:List Value} {s x:Operand} {ob:OB} {av:AV} {news:List (List AV)}  (hb:(ob.es.length+news.length) * by_≤140737488355328) (h:RG P (⟨⟨some dd,g,.append e sz by_ z s x⟩,.own nn,[],[(nn,some ⟨true,false,e,sz,ob.es++news⟩),(id,none)],1⟩::acc) l ⟨(dd,.own nn)::tt,(nn,some ⟨true,false,e,sz,ob.es++news⟩)::(id,none)::hh,nn+1⟩ K) (hg:BD ⟨tt,hh,nn⟩ g:=by first|exact True.intro|rfl) (hs:ev ⟨tt,hh,nn⟩ s=.own id:=by rfl) (ho:hl hh id=some ob:=by rfl) (hr:ob.row=true:=by rfl) (hro:ob.ro=false:=by rfl) (hsz:ob.sz=sz:=by rfl) (he:ob.e=e:=by rfl) (hx:ev ⟨tt,hh,nn⟩ x=av:=by rfl) (hn:G9 (restr [] hh) sz av=some news:=by rfl):RG P acc (⟨some dd,g,.append e sz by_ z s x⟩::l) ⟨tt,hh,nn⟩ K:=RG.step (Aat [] hg hs ho hr hro hsz he hx hn hb) h
theorem W5 {e:TypeId} {sz by_:Nat} {z:List Value} {s x:Operand} {av:AV} {news:List (List AV)}  (hb:news.length * by_≤140737488355328) (h:RG P (⟨⟨some dd,g,.append e sz by_ z s x⟩,.own nn,[],[(nn,some ⟨true,false,e,sz,news⟩)],1⟩::acc) l ⟨(dd,.own nn)::tt,(nn,some ⟨true,false,e,sz,news⟩)::hh,nn+1⟩ K) (hg:BD ⟨tt,hh,nn⟩ g:=by first|exact True.intro|rfl) (hs:ev ⟨tt,hh,nn⟩ s=.lit (.slice none 0 0):=by rfl) (hx:ev ⟨tt,hh,nn⟩ x=av:=by rfl) (hn:G9 (restr [] hh) sz av=some news:=by rfl):RG P acc (⟨some dd,g,.append e sz by_ z s x⟩::l) ⟨tt,hh,nn⟩ K:=RG.step (W0 [] hg hs hx hn hb) h
theorem AlG {e:TypeId} {sz by_:Nat} {z:List Value} {lo c:Operand} {kl kc:IntKind} {L M:Int} (h0:0≤L) (h1:L≤M) (hb:(by_:Int) * M≤281474976710656) (h:RG P (⟨⟨some dd,g,.make e sz by_ z lo c⟩,.own nn,[],[(nn,some ⟨true,false,e,sz,List.replicate L.toNat (z.map .lit)⟩)],1⟩::acc) l ⟨(dd,.own nn)::tt,(nn,some ⟨true,false,e,sz,List.replicate L.toNat (z.map .lit)⟩)::hh,nn+1⟩ K) (hg:BD ⟨tt,hh,nn⟩ g:=by first|exact True.intro|rfl) (hl':ev ⟨tt,hh,nn⟩ lo=.lit (.int kl L):=by rfl) (hc:ev ⟨tt,hh,nn⟩ c=.lit (.int kc M):=by rfl):RG P acc (⟨some dd,g,.make e sz by_ z lo c⟩::l) ⟨tt,hh,nn⟩ K:=RG.step (Ag0 hg hl' hc h0 h1 hb) h
theorem Il {t e:TypeId} {x y:Operand} {a:Option Addr} {n c:Nat} (hu:P.underlying t=some (.slice e)) (h:RG P (⟨⟨some dd,g,.eqv t false x y⟩,.lit (.bool a.isNone),[],[],0⟩::acc) l ⟨(dd,.lit (.bool a.isNone))::tt,hh,nn⟩ K) (hg:BD ⟨tt,hh,nn⟩ g:=by first|exact True.intro|rfl) (hx:ev ⟨tt,hh,nn⟩ x=.lit (.slice a n c):=by rfl) (hy:ev ⟨tt,hh,nn⟩ y=.lit (.slice none 0 0):=by rfl):RG P acc (⟨some dd,g,.eqv t false x y⟩::l) ⟨tt,hh,nn⟩ K:=RG.step (AlC hu hg hx hy) h
theorem TR {sz id:Nat} {n:Int} {x y:Operand} {ob:OB} {av:AV} {news:List (List AV)}  (hle:news.length≤ob.es.length) (h:RG P (⟨⟨some dd,g,.copy sz x y⟩,.lit (.int .i64 n),[],[(id,some { ob with es:=news++ob.es.drop news.length })],0⟩::acc) l ⟨(dd,.lit (.int .i64 n))::tt,(id,some { ob with es:=news++ob.es.drop news.length })::hh,nn⟩ K) (hg:BD ⟨tt,hh,nn⟩ g:=by first|exact True.intro|rfl) (hs:ev ⟨tt,hh,nn⟩ x=.own id:=by rfl) (ho:hl hh id=some ob:=by rfl) (hrow:ob.row=true:=by rfl) (hro:ob.ro=false:=by rfl) (hsz:ob.sz=sz:=by rfl) (hx:ev ⟨tt,hh,nn⟩ y=av:=by rfl) (hn:G9 (restr [] hh) sz av=some news:=by rfl) (hk:(news.length:Int)=n:=by rfl):RG P acc (⟨some dd,g,.copy sz x y⟩::l) ⟨tt,hh,nn⟩ K:=RG.step (hk ▸ AlF [] hg hs ho hrow hro hsz hx hn hle) h
end
section
variable {P:Program} {st:St} {d:Option Nat} {g:Option (Nat × Bool)}
def HJ (st:St) (x:Option Operand) (dflt:Int) (z:Int):Prop:=match x with
 | none=>z=dflt
 | some o=>∃ k,ev st o=.lit (.int k z)
theorem B4 {w:World} {k:IntKind} {z:Int} {y:Nat} {c:BoundsCode} (h0:0≤z) (h1:z≤y):(Instr.sliceBound (.int k z) y c).run P w=.ok z.toNat w:=by
 simp only [Instr.sliceBound,asIntOf,Sem.run_bind,Sem.run_pure,Result.andThen_ok,if_pos (And.intro h0 h1)]
theorem AtA.part {im:Nat→Prop} {w:World} {a:Option Addr} {sz:Nat} {es:List (List AV)} {vs:List Value} (hat:AtA im w a vs) (hrd:AZ im w sz es vs) (l h:Nat) (hlh:l≤h) (hh:h≤es.length) {m:Nat} (hm:l=m→h=l) :
 AtA im w (if m=l then a else a.map (·.add (l * sz))) ((vs.drop (l * sz)).take ((h - l) * sz)):=by
 intro i v hv;rw [List.getElem?_take] at hv;split at hv
 ·rename_i hi
  rw [List.getElem?_drop] at hv;obtain ⟨b,off,rfl,hb,hc⟩:=hat _ v hv;by_cases hml:m=l
  ·have:=hm hml.symm
   rw [this,Nat.sub_self,Nat.zero_mul] at hi;omega
  ·rw [if_neg hml]
   exact ⟨b,off+l * sz,by simp only [Option.map_some,CC],hb,by rw [Nat.add_assoc]; exact hc⟩
 ·cases hv
theorem AZ.drop {im:Nat→Prop} {w:World} {sz:Nat}:∀ (n:Nat) {es:List (List AV)} {vs:List Value},AZ im w sz es vs→AZ im w sz (es.drop n) (vs.drop (n * sz))
 | 0,es,vs,h=>by simpa using h
 | n+1,[],vs,h=>by simp only [AZ] at h; subst h; simp [AZ]
 | n+1,e::es,vs,h=>by
   simp only [AZ] at h;obtain ⟨x,rest,rfl,h1,h2,h3⟩:=h
   have:(x++rest).drop ((n+1) * sz)=rest.drop (n * sz):=by
    rw [Nat.add_mul,Nat.one_mul,Nat.add_comm,← List.drop_drop];congr 1;rw [← h1]; simp
   rw [this]; exact AZ.drop n h3
theorem AZ.take {im:Nat→Prop} {w:World} {sz:Nat}:∀ (n:Nat) {es:List (List AV)} {vs:List Value},AZ im w sz es vs→AZ im w sz (es.take n) (vs.take (n * sz))
 | 0,es,vs,h=>by simp [AZ]
 | n+1,[],vs,h=>by simp only [AZ] at h; subst h; simp [AZ]
 | n+1,e::es,vs,h=>by
   simp only [AZ] at h;obtain ⟨x,rest,rfl,h1,h2,h3⟩:=h;simp only [List.take_succ_cons,AZ];refine ⟨x,rest.take (n * sz),?_,h1,h2,AZ.take n h3⟩;rw [Nat.add_mul,Nat.one_mul,Nat.add_comm,← h1,List.take_length_add_append]
theorem HU {w:World} {t e:TypeId} {gg:Bool} {sz:Nat} (hu:P.underlying t=some (.slice e)) (hs:EG P e=some (gg,sz)) {a:Option Addr} {len cap:Nat} {lo hi mx:Option Value} {l h m:Nat}
 (hm:(match mx with|none=>m=cap|some v=>∃ k,v=.int k m∧m≤cap)) (hh:(match hi with|none=>h=len|some v=>∃ k,v=.int k h)) (hl:(match lo with|none=>l=0|some v=>∃ k,v=.int k l)) (h1:l≤h) (h2:h≤m) (h3:h≤cap) (h4:mx.isSome=true→hi.isSome=true) :
 (Instr.sliceAt t (.slice a len cap) lo hi mx).run P w=.ok (.slice (if m=l then a else a.map (·.add (l * sz))) (h - l) (m - l)) w:=by
 obtain ⟨dd,i,k1,k2,k3,_⟩:=D9 hs;have hsz:(sizeOf e).run P w=.ok sz w:=by simp [sizeOf,typeInfo,k2,k3]
 have hb:(Instr.sliceBounds true len cap lo hi mx).run P w=.ok (l,h,m) w:=by
  cases mx with
  | none =>
    simp only at hm; subst hm;cases hi with
    | none =>
      simp only at hh; subst hh;cases lo with
      | none=>simp only at hl; subst hl; rfl
      | some v =>
        obtain ⟨k,rfl⟩:=hl;simp only [Instr.sliceBounds,Sem.run_bind,Sem.run_pure,Result.andThen_ok,B4 (Int.natCast_nonneg l) (Int.ofNat_le.2 h1),Int.toNat_natCast]
    | some vh =>
      obtain ⟨kh,rfl⟩:=hh;cases lo with
      | none=>simp only at hl; subst hl; simp only [Instr.sliceBounds,Sem.run_bind,Sem.run_pure,Result.andThen_ok,B4 (Int.natCast_nonneg h) (Int.ofNat_le.2 h3),Int.toNat_natCast]
      | some v =>
        obtain ⟨k,rfl⟩:=hl;simp only [Instr.sliceBounds,Sem.run_bind,Sem.run_pure,Result.andThen_ok,B4 (Int.natCast_nonneg h) (Int.ofNat_le.2 h3),B4 (Int.natCast_nonneg l) (Int.ofNat_le.2 h1),Int.toNat_natCast]
  | some vm =>
    obtain ⟨km,rfl,hmc⟩:=hm;cases hi with
    | none=>simp at h4
    | some vh =>
      obtain ⟨kh,rfl⟩:=hh;cases lo with
      | none=>simp only at hl; subst hl; simp only [Instr.sliceBounds,Sem.run_bind,Sem.run_pure,Result.andThen_ok,B4 (Int.natCast_nonneg m) (Int.ofNat_le.2 hmc),B4 (Int.natCast_nonneg h) (Int.ofNat_le.2 h2),Int.toNat_natCast]
      | some v =>
        obtain ⟨k,rfl⟩:=hl;simp only [Instr.sliceBounds,Sem.run_bind,Sem.run_pure,Result.andThen_ok,B4 (Int.natCast_nonneg m) (Int.ofNat_le.2 hmc),B4 (Int.natCast_nonneg h) (Int.ofNat_le.2 h2),B4 (Int.natCast_nonneg l) (Int.ofNat_le.2 h1),Int.toNat_natCast]
 simp only [Instr.sliceAt,Instr.slice,Sem.run_bind,run_underlying hu w,Result.andThen_ok,hb,hsz,Sem.run_pure]
theorem Aed {sz:Nat} {x:Operand} {lo hi mx:Option Operand} {es:List (List AV)} {l h:Nat} (hg:BD st g) (hx:ev st x=.sl sz es) (hl:HJ st lo 0 l) (hh:HJ st hi es.length h) (hm:mx=none∨(mx=hi∧hi.isSome=true)) (h1:l≤h) (h2:h≤es.length) :
 BS P st ⟨⟨d,g,.slice sz x lo hi mx⟩,.sl sz ((es.drop l).take (h - l)),[],[],0⟩ :=
  Bc [] hg fun o C E ac w sx hlow R hr hh'=>by
 have hv:=hr x (by simp [Ci.opds]);rw [hx] at hv;obtain ⟨a,cap,vs,hv,hle,hnil,hmax,hat,h1s,hrd⟩:=hv
 have vint:∀ {y:Option Operand} {dflt z:Int},(∀ o,y=some o→o ∈ (Ci.slice sz x lo hi mx).opds)→HJ st y dflt z→(y=none∧z=dflt)∨(∃ k,y.map ac.eval=some (.int k z)):=fun {y dflt z} hy hb=>by
  cases y with
  | none=>exact .inl ⟨rfl,hb⟩
  | some o =>
    obtain ⟨k,hk⟩:=hb;exact .inr ⟨k,by simp only [Option.map_some]; rw [AX (hr o (hy o rfl)) hk]⟩
 obtain ⟨dst,o,ty,pos,after,guard⟩:=o;obtain ⟨t,e,gg,rfl,het,hs⟩:=AL hlow;have hlo:=vint (y:=lo) (fun o ho=>by subst ho; simp [Ci.opds,oL]) hl;have hhi:=vint (y:=hi) (fun o ho=>by subst ho; simp [Ci.opds,oL]) hh
 obtain ⟨m,hmm,hhm,hmc,hmcap,hiso⟩:∃ m:Nat,(match mx.map ac.eval with|none=>m=cap|some v=>∃ k,v=.int k m∧m≤cap)∧h≤m∧(m=l→h=l)∧m≤cap∧((mx.map ac.eval).isSome=true→(hi.map ac.eval).isSome=true):=by
  rcases hm with rfl|⟨rfl,his⟩
  ·exact ⟨cap,rfl,by omega,fun e=>by omega,Nat.le_refl _,by simp⟩
  ·rcases hhi with ⟨h0,_⟩|⟨k,hk⟩
   ·rw [h0] at his; cases his
   ·exact ⟨h,by rw [hk]; exact ⟨k,rfl,by omega⟩,Nat.le_refl _,fun e=>e,by omega,by simp⟩
 have hrun:=HU (P:=P) (w:=w) (a:=a) (len:=es.length) (cap:=cap) (lo:=lo.map ac.eval) (hi:=hi.map ac.eval) (mx:=mx.map ac.eval) (l:=l) (h:=h) (m:=m) (Dt het) hs hmm
  (by rcases hhi with ⟨h0,e⟩|⟨k,hk⟩
      ·rw [h0]; simp only [Option.map_none]; omega
      ·rw [hk]; exact ⟨k,rfl⟩)
  (by rcases hlo with ⟨h0,e⟩|⟨k,hk⟩
      ·rw [h0]; simp only [Option.map_none]; omega
      ·rw [hk]; exact ⟨k,rfl⟩) h1 hhm (by omega) hiso
 have hlen:((es.drop l).take (h - l)).length=h - l:=by simp; omega
 refine ⟨.slice (if m=l then a else a.map (·.add (l * sz))) (h - l) (m - l),by simp only [execOp,hv,Sem.run_bind,hrun,Result.andThen_ok,Sem.run_pure],_,_,_,by rw [hlen],by omega,?_,by omega,hat.part hrd l h h1 h2 (fun e=>(hmc e.symm)),fun u hu=>h1s u (List.mem_of_mem_drop (List.mem_of_mem_take hu)),(hrd.drop l).take (h - l)⟩;intro hn;by_cases hml:m=l
 ·omega
 ·rw [if_neg hml] at hn
  have ha:a=none:=by cases a<;>simp at hn ⊢
  have:=hnil ha
  omega
end
section
variable {P:Program} {tt:List (Nat × AV)} {hh:Hp} {nn dd:Nat} {g:Option (Nat × Bool)} {l:List AG} {acc:List SD} {K:List SD→St→Prop}
theorem Aee {sz:Nat} {x:Operand} {lo hi mx:Option Operand} {es:List (List AV)} (a b:Nat) (h1:a≤b) (h2:b≤es.length) (h:RG P (⟨⟨some dd,g,.slice sz x lo hi mx⟩,.sl sz ((es.drop a).take (b - a)),[],[],0⟩::acc) l ⟨(dd,.sl sz ((es.drop a).take (b - a)))::tt,hh,nn⟩ K)
 (hg:BD ⟨tt,hh,nn⟩ g:=by first|exact True.intro|rfl) (hx:ev ⟨tt,hh,nn⟩ x=.sl sz es:=by rfl) (hl:HJ ⟨tt,hh,nn⟩ lo 0 a:=by first|rfl|exact ⟨_,rfl⟩) (hh':HJ ⟨tt,hh,nn⟩ hi es.length b:=by first|rfl|exact ⟨_,rfl⟩) (hm:mx=none∨(mx=hi∧hi.isSome=true):=by first|exact .inl rfl|exact .inr ⟨rfl,rfl⟩) :
 RG P acc (⟨some dd,g,.slice sz x lo hi mx⟩::l) ⟨tt,hh,nn⟩ K:=RG.step (Aed hg hx hl hh' hm h1 h2) h
end
section
variable {P:Program} {C:EH} {Q:Exit→St→Prop} {st:St}
def AWR (P:Program) (C:EH) (c:Bi) (Q:Exit→St→Prop):Nat→St→Prop
 | 0,_=>False
 | n+1,s=>AW P C c (WY (fun s'=>AWR P C c Q n s') Q) s
theorem CM {c:Bi} (n:Nat) (h:AWR P C c Q n st):AW P C (.loop c) Q st:=by
 intro code hc E a w hR;cases code with
 | loop b =>
   simp only [AN] at hc;split at hc
   ·rename_i b' hb
    simp only [Option.some.injEq,Bi.loop.injEq] at hc;subst hc;refine wp_loop_rounds n ?_
    have key:∀ n (s:St) E a w,AWR P C b' Q n s→EP C E s a w→Code.rounds P b (Alh C Q) n a w:=by
     intro n
     induction n with
     | zero=>intro s E a w h _; exact h.elim
     | succ n ih =>
       intro s E a w h hR;rw [rounds_succ];refine wp_mono (h b hb E a w hR) ?_;rintro e a' w' ⟨E',s',h1,h2⟩;cases e with
       | normal=>exact ih s' E' a' w' h1 h2
       | _=>exact ⟨E',s',h1,h2⟩
    exact key n st E a w h hR
   ·cases hc
 | region id ops draw=>obtain ⟨_,_,_,e⟩:=Cp hc; cases e
 | seq a b=>simp only [AN] at hc; split at hc<;>cases hc
 | cond c a b=>simp only [AN] at hc; split at hc<;>cases hc
 | block id a=>simp only [AN] at hc; split at hc<;>cases hc
 | _=>simp [AN] at hc
theorem Ea {c:Bi} {n:Nat} (h:AW P C c (WY (fun s'=>AWR P C c Q n s') Q) st):AWR P C c Q (n+1) st:=h
theorem A4 {c:Bi} (id:Nat) {o:OB} (ho:hl st.h id=some o) (h:AW P C c Q { st with h:=(id,some { o with ro:=true })::st.h }):AW P C c Q st:=by
 refine DM (fun E a w R => ?_) h
 let E':CK:={ E with im:=fun b=>E.im b∨(E.live id∧Bz (E.val id)=some b) }
 have hlv:∀ k,E.live k→E'.live k∧E'.val k=E.val k∧E'.sz k=E.sz k:=fun k h=>⟨h,rfl,rfl⟩;have him:∀ b,E.im b→E'.im b:=fun b h=>.inl h;have hw:∀ b,E.im b→w.heap[b]? = w.heap[b]? := fun _ _=>rfl;refine ⟨E',R.defers,R.size,fun n=>Rd.mono hlv him hw _ _ (R.tm n),⟨?_,?_,?_,?_⟩,R.nx,?_,R.ext,fun b hb=>.inl (R.imx b hb),?_,R.frm⟩
 ·intro k ob hk hh
  have old:∀ o',hl st.h k=some o'→G6 E' w k o':=fun o' ho'=>(R.heap.ob k o' hk ho').mono ⟨rfl,rfl⟩ hlv him hw (fun _ _=>rfl);rcases B2 hh with ⟨rfl,e⟩|⟨hne,p1⟩
  ·simp only [Option.some.injEq] at e; subst e
   exact old o ho
  ·exact old ob p1
 ·intro k k' ob ob' b hk hk' hh hh' hb hb'
  have e:∀ j oj,hl ((id,some { o with ro:=true })::st.h) j=some oj→∃ oj',hl st.h j=some oj':=fun j oj hj=>by
   rcases B2 hj with ⟨rfl,_⟩|⟨_,p⟩
   ·exact ⟨o,ho⟩
   ·exact ⟨oj,p⟩
  obtain ⟨q1,e1⟩:=e k ob hh;obtain ⟨q2,e2⟩:=e k' ob' hh';exact R.heap.apart k k' q1 q2 b hk hk' e1 e2 hb hb'
 ·intro k ob b hk hh hb
  rcases B2 hh with ⟨rfl,e⟩|⟨hne,p1⟩
  ·simp only [Option.some.injEq] at e; subst e
   exact ⟨fun _=>rfl,fun _=>.inr ⟨hk,hb⟩⟩
  ·rw [← R.heap.im k ob b hk p1 hb]
   constructor
   ·rintro (h|⟨h1,h2⟩)
    ·exact h
    ·exact absurd (R.heap.apart k id ob o b hk h1 p1 ho hb h2) hne
   ·exact fun h=>.inl h
 ·rintro b (h|⟨h1,h2⟩)
  ·exact R.heap.lt b h
  ·exact R.heap.blk_lt h1 ho h2
 ·intro k ob b hk hh hb
  rcases B2 hh with ⟨rfl,e⟩|⟨hne,p1⟩
  ·exact R.own k o b hk ho hb
  ·exact R.own k ob b hk p1 hb
 ·rintro b (h|⟨h1,h2⟩)
  ·exact R.imn b h
  ·exact .inr (R.own id o b h1 ho h2)
theorem DN {c:Bi} (n:Nat) (F:Prop) (hF:∀ E w v,Rd E w (st.get n) v→F) (h:F→AW P C c Q st):AW P C c Q st:=AgM F (fun E a w R=>hF E w _ (R.tm n)) h
end
def Nj (P:Program):Nat→TypeId→List AV→Prop
 | 0,_,_=>False
 | n+1,t,avs=>match P.underlying t with
   | some .bool=>∃ b,avs=[.lit (.bool b)]
   | some (.int k)=>∃ z,avs=[.lit (.int k z)]∧(Lit.int k z).wf=true
   | some .string=>∃ s:ByteArray,avs=[.lit (.string s)]∧s.size≤reachBytes
   | some (.slice e)=>∃ es,avs=[.sl (P.cellsOf e) es]∧es.length * P.bytesOf e≤reachBytes∧∀ x ∈ es,Nj P n e x
   | some (.struct fs)=>avs.length=P.cellsOf t∧∀ (i:Nat) (f:Field),fs[i]? = some f→Nj P n f.type ((avs.drop f.offset).take (P.cellsOf f.type))
   | some (.array k e)=>avs.length=P.cellsOf t∧∀ i,i<k→Nj P n e ((avs.drop (i * P.cellsOf e)).take (P.cellsOf e))
   | _=>False
def Aav (P:Program):List Field→Nat→Nat→Bool
 | [],off,n=>Nat.beq off n
 | f::fs,off,n=>Nat.beq f.offset off && Aav P fs (off+P.cellsOf f.type) n
def Aef (P:Program) (T:List TypeId):Bool :=
 T.all fun t=>match P.underlying t with
  | some .bool|some (.int _)|some .string=>Nat.beq (P.cellsOf t) 1
  | some (.slice e)=>T.any (Nat.beq e) && Nat.blt 0 (P.bytesOf e) && Nat.beq (P.cellsOf t) 1
  | some (.struct fs)=>Aav P fs.toList 0 (P.cellsOf t) && fs.toList.all fun f=>T.any (Nat.beq f.type)
  | some (.array k e)=>T.any (Nat.beq e) && Nat.beq (k * P.cellsOf e) (P.cellsOf t)
  | _=>false
theorem Yo {T:List TypeId} {e:TypeId} (h:T.any (Nat.beq e)=true):e ∈ T:=by
 rw [List.any_eq_true] at h;obtain ⟨x,hx,hb⟩:=h;rw [Nat.eq_of_beq_eq_true hb]; exact hx
theorem Be.one {im:Nat→Prop} {w:World} {av:AV} {v:Value} (h:Dm im w av v):Be im w [av] [v]:=⟨v,[],rfl,h,rfl⟩
section
variable {H:Type} {enc:TypeId × Value→H} {P:Program} {w:World} {held:Bool}
theorem Hc {e:TypeId}:∀ {l:List (DataW H)} {d:DataW H} {n:Nat},d ∈ l→n ∈ d.weights P e→n ∈ DataW.weightsAll P e l
 | [],d,n,h,_=>by cases h
 | a::l,d,n,h,hn=>by
   simp only [DataW.weightsAll,List.mem_append];rcases List.mem_cons.1 h with rfl|h
   ·exact .inl hn
   ·exact .inr (Hc h hn)
theorem J6:∀ {ts:List TypeId} {l:List (DataW H)} {i:Nat} {t:TypeId} {d:DataW H} {n:Nat},ts[i]? = some t→l[i]? = some d→n ∈ d.weights P t→n ∈ DataW.weightsEach P ts l
 | [],_,i,t,d,n,h,_,_=>by simp at h
 | _::_,[],i,t,d,n,_,h,_=>by simp at h
 | t0::ts,d0::l,0,t,d,n,h,h',hn=>by
   simp only [List.getElem?_cons_zero,Option.some.injEq] at h h';subst h; subst h';simp only [DataW.weightsEach,List.mem_append]; exact .inl hn
 | t0::ts,d0::l,i+1,t,d,n,h,h',hn=>by
   simp only [DataW.weightsEach,List.mem_append]; exact .inr (J6 (by simpa using h) (by simpa using h') hn)
theorem Ag4 {im:Nat→Prop} {cs:List Value} {R:Field→List AV→Prop}:∀ (fs:List Field) (off n:Nat),Aav P fs off n=true→off≤n→n=cs.length →
 (∀ f ∈ fs,∃ avs,Be im w avs ((cs.drop f.offset).take (P.cellsOf f.type))∧R f avs)→∃ avs,Be im w avs (cs.drop off)∧∀ f ∈ fs,R f ((avs.drop (f.offset - off)).take (P.cellsOf f.type))∧off≤f.offset
 | [],off,n,h,hle,hn,_=>by
   have:=Nat.eq_of_beq_eq_true h
   refine ⟨[],?_,fun f hf=>by cases hf⟩;rw [List.drop_eq_nil_of_le (by omega)]; rfl
 | f::fs,off,n,h,hle,hn,hf=>by
   simp only [Aav,Bool.and_eq_true] at h;have ho:=Nat.eq_of_beq_eq_true h.1;obtain ⟨a1,h1,h2⟩:=hf f (by simp)
   have hge:off+P.cellsOf f.type≤n:=by
    have:∀ (fs:List Field) (o n:Nat),Aav P fs o n=true→o≤n:=by
     intro fs; induction fs with
     | nil=>intro o n h; have:=Nat.eq_of_beq_eq_true h; omega
     | cons f fs ih=>intro o n h; simp only [Aav,Bool.and_eq_true] at h; have:=ih _ _ h.2; omega
    exact this _ _ _ h.2
   obtain ⟨a2,h3,h4⟩:=Ag4 fs (off+P.cellsOf f.type) n h.2 hge hn (fun f hf'=>hf f (by simp [hf']));rw [ho] at h1
   have hl1:a1.length=P.cellsOf f.type:=by
    have:=(Be.length h1)
    rw [List.length_take,List.length_drop] at this; omega
   refine ⟨a1++a2,?_,?_⟩
   ·have e:cs.drop off=(cs.drop off).take (P.cellsOf f.type)++cs.drop (off+P.cellsOf f.type):=by
     rw [← List.drop_drop,List.take_append_drop]
    rw [e]; exact h1.append h3
   ·intro f' hf'
    rcases List.mem_cons.1 hf' with rfl|hf'
    ·rw [ho,Nat.sub_self,List.drop_zero,← hl1,List.take_left]
     exact ⟨h2,Nat.le_refl _⟩
    ·obtain ⟨k1,k2⟩:=h4 f' hf'
     refine ⟨?_,by omega⟩;rw [show f'.offset - off=a1.length+(f'.offset - (off+P.cellsOf f.type)) from by omega,List.drop_length_add_append];exact k1
theorem AfB {n:Nat} (h:n≤reachBytes):n≤Tx:=by
 have:reachBytes=140737488351232:=by decide
 unfold Tx; omega
theorem Ag5 {T:List TypeId} (hT:Aef P T=true):∀ (n:Nat) (t:TypeId) (cs:List Value) (x:DataW H × List MemPlace),t ∈ T→DataW.trod enc P w 0 (fun _=>true) held n t cs=some x→(∀ k ∈ x.1.weights P t,k≤reachBytes) →
 ∃ avs,Be (fun b=>b<w.heap.size) w avs cs∧Ft cs∧cs.length=P.cellsOf t∧Nj P n t avs:=by
 intro n
 induction n with
 | zero=>intro t cs x _ h; simp [DataW.trod] at h
 | succ n ih =>
   intro t cs x ht h hw;have hc:=List.all_eq_true.1 hT t ht;cases hu:P.underlying t with
   | none=>simp [hu] at hc
   | some d =>
     rw [hu] at hc;cases d<;>simp only [Bool.false_eq_true] at hc
     case bool =>
      unfold DataW.trod at h;rw [hu] at h;have hc1:=Nat.eq_of_beq_eq_true hc;split at h<;>simp_all
      rename_i b;refine ⟨[.lit (.bool b)],Be.one rfl,fun u hu=>by simp at hu; subst hu; rfl,?_⟩;simp only [Nj,hu];exact ⟨b,rfl⟩
     case int k =>
      unfold DataW.trod at h;rw [hu] at h;have hc1:=Nat.eq_of_beq_eq_true hc;split at h<;>simp_all
      rename_i k2 z e;subst e;refine ⟨[.lit (.int k z)],Be.one rfl,fun u hu=>by simp at hu; subst hu; rfl,?_⟩;simp only [Nj,hu];exact ⟨z,rfl,h.1.2⟩
     case string =>
      unfold DataW.trod at h;rw [hu] at h;have hc1:=Nat.eq_of_beq_eq_true hc;split at h<;>simp_all
      rename_i s;obtain ⟨h1,rfl⟩:=h;refine ⟨[.lit (.string s)],Be.one rfl,fun u hu=>by simp at hu; subst hu; rfl,?_⟩;simp only [Nj,hu];exact ⟨s,rfl,by have:=hw s.data.toList.length (by simp [DataW.weights]); simpa using this⟩
     case slice e =>
      simp only [Bool.and_eq_true] at hc;have heT:=Yo hc.1.1;have hby:0<P.bytesOf e:=by simpa [Nat.blt_eq] using hc.1.2
      have hc1:=Nat.eq_of_beq_eq_true hc.2;rcases DataW.trod_slice hu h with ⟨rfl,rfl⟩|⟨a,len,cap,elems,rest,m,hm,rfl,rfl,_,hlc,hcm,hlen,hel,hsp,_⟩
      ·refine ⟨[.sl (P.cellsOf e) []],Be.one ⟨none,0,[],rfl,Nat.le_refl _,fun _=>rfl,Nat.zero_le _,fun i v h=>(by simp at h),fun u hu=>(by cases hu),rfl⟩,fun u hu=>by simp at hu; subst hu; rfl,by simpa using hc1.symm,?_⟩
       simp only [Nj,hu];exact ⟨[],rfl,by simp,fun x hx=>by cases hx⟩
      ·obtain rfl:n=m:=by omega
       have hwt:∀ k ∈ (DataW.slice (elems.map (·.1)) (rest.map (·.1)):DataW H).weights P t,k≤reachBytes:=hw;have hrl:rest.length=cap - len:=(hsp rfl).1
       have hb:cap * P.bytesOf e≤reachBytes:=by
        refine hwt _ ?_;simp only [DataW.weights,hu,List.length_map,hlen,hrl];rw [show len+(cap - len)=cap from by omega];exact List.mem_cons_self
       have hcap:cap≤reachBytes:=Nat.le_trans (Nat.le_mul_of_pos_right _ hby) hb
       have key:∀ k,k≤len→∃ es vs,es.length=k∧AZ (fun b=>b<w.heap.size) w (P.cellsOf e) es vs∧Ft vs∧(∀ j u,vs[j]? = some u→w.cell? (a.add j)=some u)∧∀ x ∈ es,Nj P n e x:=by
        intro k
        induction k with
        | zero=>intro _; exact ⟨[],[],rfl,rfl,(fun u hu=>by cases hu),(fun j u hj=>by simp at hj),(fun x hx=>by cases hx)⟩
        | succ k ihk =>
          intro hk;obtain ⟨es,vs,h1,h2,h3,h4,h5⟩:=ihk (by omega);have hk':=hel k (by omega);obtain ⟨x,hx⟩:∃ x,elems[k]? = some x:=⟨elems[k]'(by omega),by simp⟩;rw [hx] at hk';obtain ⟨cs',hcells,htr⟩:=Option.bind_eq_some_iff.1 hk';obtain ⟨_,hlcs,hcell⟩:=World.cells?_some hcells
          obtain ⟨avs,q1,q2,q3,q4⟩:=ih e cs' x heT htr (fun q hq=>hwt q (by
           simp only [DataW.weights,hu];refine List.mem_cons_of_mem _ (List.mem_append.2 (.inl ?_));exact Hc (List.mem_map.2 ⟨x,List.mem_of_getElem? hx,rfl⟩) hq))
          have hvl:vs.length=k * P.cellsOf e:=by rw [h2.length,h1]
          refine ⟨es++[avs],vs++cs',by simp [h1],h2.append ⟨cs',[],by simp,by omega,q1,rfl⟩,?_,?_,?_⟩
          ·intro u hu
           rcases List.mem_append.1 hu with h|h
           ·exact h3 u h
           ·exact q2 u h
          ·intro j u hj
           by_cases hjl:j<vs.length
           ·rw [List.getElem?_append_left hjl] at hj; exact h4 j u hj
           ·rw [List.getElem?_append_right (by omega)] at hj
            have hlt:=(List.getElem?_eq_some_iff.1 hj).1
            have:=hcell (j - vs.length) (by omega)
            rw [hj] at this
            have e1:(a.add (k * P.cellsOf e)).add (j - vs.length)=a.add j:=by
             rw [Addr.add_add]; congr 1; omega
            rw [e1] at this; exact this
          ·intro x hx
           rcases List.mem_append.1 hx with h|h
           ·exact h5 x h
           ·simp at h; subst h; exact q4
       obtain ⟨es,vs,h1,h2,h3,h4,h5⟩:=key len (Nat.le_refl _)
       have hat:AtA (fun b=>b<w.heap.size) w (some a) vs:=fun i v hv=>by
        have h0:=h4 i v hv;obtain ⟨b,off,spot⟩:=a;have hvl:0<vs.length:=by have:=(List.getElem?_eq_some_iff.1 hv).1; omega
        have h00:=h4 0 vs[0] (by simp [hvl]);have hspot:spot=none:=by simpa [Addr.add] using World.cell?_spot h00
        subst hspot;rw [CC] at h0;exact ⟨b,off,rfl,World.block_lt_of_cell? w _ h0,h0⟩
       refine ⟨[.sl (P.cellsOf e) es],Be.one ⟨some a,cap,vs,by rw [h1],by omega,fun h=>(by cases h),AfB (by omega),hat,h3,h2⟩,fun u hu=>by simp at hu; subst hu; rfl,by simpa using hc1.symm,?_⟩;simp only [Nj,hu];exact ⟨es,rfl,Nat.le_trans (Nat.mul_le_mul_right _ (by omega)) hb,h5⟩
     case array q e =>
      simp only [Bool.and_eq_true] at hc;have heT:=Yo hc.1;have hsz:=Nat.eq_of_beq_eq_true hc.2;obtain ⟨xs,m,hm,rfl,hl,hlen,hf⟩:=DataW.trod_array hu h;obtain rfl:n=m:=by omega
      have hwt:∀ k ∈ (DataW.agg (xs.map (·.1)):DataW H).weights P t,k≤reachBytes:=hw
      have key:∀ k,k≤q→∃ avs,Be (fun b=>b<w.heap.size) w avs (cs.take (k * P.cellsOf e))∧Ft (cs.take (k * P.cellsOf e))∧avs.length=k * P.cellsOf e∧∀ i,i<k→Nj P n e ((avs.drop (i * P.cellsOf e)).take (P.cellsOf e)):=by
       intro k
       induction k with
       | zero=>intro _; exact ⟨[],by rw [Nat.zero_mul,List.take_zero]; rfl,by rw [Nat.zero_mul,List.take_zero]; (intro u hu; cases hu),by simp,fun i hi=>absurd hi (Nat.not_lt_zero _)⟩
       | succ k ihk =>
         intro hk;obtain ⟨avs,h1,h2,h3,h4⟩:=ihk (by omega);have htr:=hf k (by omega);obtain ⟨x,hx⟩:∃ x,xs[k]? = some x:=⟨xs[k]'(by omega),by simp⟩;rw [hx] at htr
         obtain ⟨avs2,q1,q2,q3,q4⟩:=ih e _ x heT htr (fun q' hq=>hwt q' (by
          simp only [DataW.weights,hu];exact Hc (List.mem_map.2 ⟨x,List.mem_of_getElem? hx,rfl⟩) hq))
         have hsplit:cs.take ((k+1) * P.cellsOf e)=cs.take (k * P.cellsOf e)++(cs.drop (k * P.cellsOf e)).take (P.cellsOf e):=by
          rw [Nat.succ_mul,List.take_add]
         have hl2:avs2.length=P.cellsOf e:=by rw [← q3]; exact (Be.length q1).symm
         refine ⟨avs++avs2,by rw [hsplit]; exact h1.append q1,?_,by rw [List.length_append,h3,hl2,Nat.succ_mul],?_⟩
         ·rw [hsplit]
          intro u hu';rcases List.mem_append.1 hu' with h|h
          ·exact h2 u h
          ·exact q2 u h
         ·intro i hi
          by_cases hik:i<k
          ·have hle:i * P.cellsOf e+P.cellsOf e≤avs.length:=by
            rw [h3,← Nat.succ_mul]; exact Nat.mul_le_mul_right _ hik
           have:=h4 i hik
           rw [List.drop_append_of_le_length (by omega),List.take_append_of_le_length (by rw [List.length_drop]; omega)];exact this
          ·obtain rfl:i=k:=by omega
           rw [← h3,List.drop_left,← hl2,List.take_length];exact q4
      obtain ⟨avs,h1,h2,h3,h4⟩:=key q (Nat.le_refl _);have hall:cs.take (q * P.cellsOf e)=cs:=List.take_of_length_le (by omega);rw [hall] at h1 h2;refine ⟨avs,h1,h2,hl,?_⟩;simp only [Nj,hu];exact ⟨by omega,h4⟩
     case struct fs =>
      simp only [Bool.and_eq_true,List.all_eq_true] at hc;obtain ⟨xs,m,hm,rfl,hl,hlen,hf⟩:=DataW.trod_struct hu h;obtain rfl:n=m:=by omega
      have hwt:∀ k ∈ (DataW.agg (xs.map (·.1)):DataW H).weights P t,k≤reachBytes:=hw
      have hall:∀ f ∈ fs.toList,∃ avs,Be (fun b=>b<w.heap.size) w avs ((cs.drop f.offset).take (P.cellsOf f.type))∧(Ft ((cs.drop f.offset).take (P.cellsOf f.type))∧Nj P n f.type avs):=by
       intro f hfm;obtain ⟨i,hi⟩:=List.getElem?_of_mem hfm;have hi':fs[i]? = some f:=by simpa using hi
       have hlt:=(Array.getElem?_eq_some_iff.1 hi').1;obtain ⟨x,hx⟩:∃ x,xs[i]? = some x:=⟨xs[i]'(by omega),by simp [hlen,hlt]⟩;have htr:=hf i f hi';rw [hx] at htr
       obtain ⟨avs,q1,q2,q3,q4⟩:=ih f.type _ x (Yo (hc.2 f hfm)) htr (fun q hq=>hwt q (by
        simp only [DataW.weights,hu];exact J6 (i:=i) (t:=f.type) (d:=x.1) (by simp [hi]) (by simp [hx]) hq))
       exact ⟨avs,q1,q2,q4⟩
      obtain ⟨avs,k1,k2⟩:=Ag4 (P:=P) (R:=fun f a=>Ft ((cs.drop f.offset).take (P.cellsOf f.type))∧Nj P n f.type a) fs.toList 0 (P.cellsOf t) hc.1 (Nat.zero_le _) hl.symm hall;rw [List.drop_zero] at k1;refine ⟨avs,k1,?_,hl,?_⟩
      ·intro u hu'
       obtain ⟨i,hi⟩:=List.getElem?_of_mem hu';have hilt:=(List.getElem?_eq_some_iff.1 hi).1
       have find:∀ (fs:List Field) (off:Nat),Aav P fs off (P.cellsOf t)=true→off≤i→∃ f ∈ fs,f.offset≤i∧i<f.offset+P.cellsOf f.type:=by
        intro fs
        induction fs with
        | nil=>intro off h hle; have:=Nat.eq_of_beq_eq_true h; omega
        | cons f fs ihf =>
          intro off h hle;simp only [Aav,Bool.and_eq_true] at h;have ho:=Nat.eq_of_beq_eq_true h.1;by_cases hlt:i<off+P.cellsOf f.type
          ·exact ⟨f,by simp,by omega,by omega⟩
          ·obtain ⟨f',h1,h2⟩:=ihf _ h.2 (by omega)
           exact ⟨f',by simp [h1],h2⟩
       obtain ⟨f,hfm,h1,h2⟩:=find fs.toList 0 hc.1 (Nat.zero_le _)
       have:=(k2 f hfm).1.1 u
       refine this (List.mem_of_getElem? (i:=i - f.offset) ?_);rw [List.getElem?_take,if_pos (by omega),List.getElem?_drop,show f.offset+(i - f.offset)=i from by omega];exact hi
      ·simp only [Nj,hu]
       refine ⟨by have:=Be.length k1; omega,fun i f hi => ?_⟩
       have:=(k2 f (by rw [← Array.getElem?_toList] at hi; exact List.mem_of_getElem? hi)).1.2
       simpa using this
end
structure Fx where
 neg:Bool
 top:List Int
 bot:List Int
mutual
inductive Al where
 | mk (s:Nat) (shape:List Int) (cells:List Ah)
inductive Ah where
 | mk (l:Nat) (kind:Int) (n:Fx) (c:Int) (ins:List Al)
end
def Al.s:Al→Nat|.mk s _ _=>s
def Al.shape:Al→List Int|.mk _ sh _=>sh
def Al.cells:Al→List Ah|.mk _ _ cs=>cs
def Ah.l:Ah→Nat|.mk l _ _ _ _=>l
def Ah.kind:Ah→Int|.mk _ k _ _ _=>k
def Ah.n:Ah→Fx|.mk _ _ n _ _=>n
def Ah.c:Ah→Int|.mk _ _ _ c _=>c
def Ah.ins:Ah→List Al|.mk _ _ _ _ ins=>ins
def Ab (k:IntKind) (zs:List Int):List (List AV):=zs.map fun z=>[.lit (.int k z)]
def AY (n:Fx):List AV:=[.lit (.bool n.neg),.sl 1 (Ab .u32 n.top),.sl 1 (Ab .u32 n.bot)]
mutual
def Dg:Al→List AV
 | .mk s sh cs=>[.lit (.int .u64 s),.sl 1 (Ab .i64 sh),.sl 7 (Nk cs)]
def Av:Ah→List AV
 | .mk l k n c ins=>[.lit (.int .u64 l),.lit (.int .i64 k),.lit (.bool n.neg),.sl 1 (Ab .u32 n.top),.sl 1 (Ab .u32 n.bot),.lit (.int .i64 c),.sl 3 (W6 ins)]
def Nk:List Ah→List (List AV)
 | []=>[]
 | c::cs=>Av c::Nk cs
def W6:List Al→List (List AV)
 | []=>[]
 | a::l=>Dg a::W6 l
end
theorem Nl:∀ (cs:List Ah),Nk cs=cs.map Av
 | []=>rfl
 | c::cs=>by simp only [Nk,List.map_cons,Nl cs]
theorem Qz:∀ (l:List Al),W6 l=l.map Dg
 | []=>rfl
 | a::l=>by simp only [W6,List.map_cons,Qz l]
def Ao (a:Al):List AV:=[.lit (.int .u64 a.s),.sl 1 (Ab .i64 a.shape),.sl 7 (a.cells.map Av)]
def Au (c:Ah):List AV:=[.lit (.int .u64 c.l),.lit (.int .i64 c.kind),.lit (.bool c.n.neg),.sl 1 (Ab .u32 c.n.top),.sl 1 (Ab .u32 c.n.bot),.lit (.int .i64 c.c),.sl 3 (c.ins.map Dg)]
theorem OY (a:Al):Dg a=Ao a:=by cases a; simp only [Dg,Ao,Nl,Al.s,Al.shape,Al.cells]
theorem Bv (c:Ah):Av c=Au c:=by cases c; simp only [Av,Au,Qz,Ah.l,Ah.kind,Ah.n,Ah.c,Ah.ins]
theorem A9 {cs:List Ah} {i:Nat} {c:Ah} (h:cs[i]? = some c):(cs.map Av)[i]? = some (Au c):=by simp [h,Bv]
theorem CY {l:List Al} {i:Nat} {a:Al} (h:l[i]? = some a):(l.map Dg)[i]? = some (Ao a):=by simp [h,OY]
theorem Az {k:IntKind} {zs:List Int} {i:Nat} {z:Int} (h:zs[i]? = some z):(Ab k zs)[i]? = some [.lit (.int k z)]:=by simp [Ab,h]
def FY (n:Fx):Prop:=(∀ z ∈ n.top,(Lit.int .u32 z).wf=true)∧(∀ z ∈ n.bot,(Lit.int .u32 z).wf=true)∧n.top.length≤reachBytes∧n.bot.length≤reachBytes
mutual
def arrOK:Al→Prop
 | .mk s sh cs=>s<18446744073709551616∧(∀ z ∈ sh,(Lit.int .i64 z).wf=true)∧sh.length≤reachBytes∧cs.length≤reachBytes∧CT cs
def cellOK:Ah→Prop
 | .mk l k n c ins=>l<18446744073709551616∧(Lit.int .i64 k).wf=true∧FY n∧(Lit.int .i64 c).wf=true∧ins.length≤reachBytes∧Dh ins
def CT:List Ah→Prop
 | []=>True
 | c::cs=>cellOK c∧CT cs
def Dh:List Al→Prop
 | []=>True
 | a::l=>arrOK a∧Dh l
end
theorem Bw:∀ {cs:List Ah},CT cs↔∀ c ∈ cs,cellOK c
 | []=>by simp [CT]
 | c::cs=>by simp only [CT,List.mem_cons,forall_eq_or_imp,Bw]
theorem Du:∀ {l:List Al},Dh l↔∀ a ∈ l,arrOK a
 | []=>by simp [Dh]
 | a::l=>by simp only [Dh,List.mem_cons,forall_eq_or_imp,Du]
structure AmU (P:Program) (tA tC tN tI tCs tAs tU tU64 tI64 tB tU32:TypeId):Prop where
 arr:∃ f0 f1 f2:Field,P.underlying tA=some (.struct #[f0,f1,f2])∧f0.type=tU64∧f1.type=tI∧f2.type=tCs∧f0.offset=0∧f1.offset=1∧f2.offset=2
 cell:∃ f0 f1 f2 f3 f4:Field,P.underlying tC=some (.struct #[f0,f1,f2,f3,f4])∧f0.type=tU64∧f1.type=tI64∧f2.type=tN∧f3.type=tI64∧f4.type=tAs∧f0.offset=0∧f1.offset=1∧f2.offset=2∧f3.offset=5∧f4.offset=6
 num:∃ f0 f1 f2:Field,P.underlying tN=some (.struct #[f0,f1,f2])∧f0.type=tB∧f1.type=tU∧f2.type=tU∧f0.offset=0∧f1.offset=1∧f2.offset=2
 ints:P.underlying tI=some (.slice tI64)
 cells:P.underlying tCs=some (.slice tC)
 arrs:P.underlying tAs=some (.slice tA)
 limbs:P.underlying tU=some (.slice tU32)
 u64:P.underlying tU64=some (.int .u64)
 i64:P.underlying tI64=some (.int .i64)
 b:P.underlying tB=some .bool
 u32:P.underlying tU32=some (.int .u32)
 sz:P.cellsOf tA=3∧P.cellsOf tC=7∧P.cellsOf tN=3∧P.cellsOf tI=1∧P.cellsOf tCs=1∧P.cellsOf tAs=1∧P.cellsOf tU=1∧P.cellsOf tU64=1∧P.cellsOf tI64=1∧P.cellsOf tB=1∧P.cellsOf tU32=1
 by_:0<P.bytesOf tA∧0<P.bytesOf tC∧0<P.bytesOf tI64∧0<P.bytesOf tU32
section
variable {P:Program} {tA tC tN tI tCs tAs tU tU64 tI64 tB tU32:TypeId}
theorem TS {t e:TypeId} {k:IntKind} (h1:P.underlying t=some (.slice e)) (h2:P.underlying e=some (.int k)) (h3:P.cellsOf e=1) (h4:0<P.bytesOf e):∀ {n:Nat} {avs:List AV},Nj P n t avs→∃ zs,avs=[.sl 1 (Ab k zs)]∧(∀ z ∈ zs,(Lit.int k z).wf=true)∧zs.length≤reachBytes
 | 0,_,h=>h.elim
 | n+1,avs,h=>by
   simp only [Nj,h1] at h;obtain ⟨es,rfl,hl,h⟩:=h
   have:∀ (es:List (List AV)),(∀ x ∈ es,Nj P n e x)→∃ zs:List Int,es=Ab k zs∧∀ z ∈ zs,(Lit.int k z).wf=true:=by
    intro es
    induction es with
    | nil=>intro _; exact ⟨[],rfl,fun z hz=>by cases hz⟩
    | cons x es ih =>
      intro hx;obtain ⟨zs,h5,h6⟩:=ih (fun y hy=>hx y (List.mem_cons_of_mem _ hy));have hx0:=hx x (by simp);cases n with
      | zero=>exact hx0.elim
      | succ n =>
        simp only [Nj,h2] at hx0;obtain ⟨z,rfl,hz⟩:=hx0;refine ⟨z::zs,by rw [h5]; rfl,fun y hy => ?_⟩;rcases List.mem_cons.1 hy with rfl|hy
        ·exact hz
        ·exact h6 y hy
   obtain ⟨zs,rfl,hz⟩:=this es h;refine ⟨zs,by rw [h3],hz,?_⟩
   have:(Ab k zs).length=zs.length:=by simp [Ab]
   rw [this] at hl;exact Nat.le_trans (Nat.le_mul_of_pos_right _ h4) hl
theorem Tb {t:TypeId} {k:IntKind} (h1:P.underlying t=some (.int k)):∀ {n:Nat} {avs:List AV},Nj P n t avs→∃ z,avs=[.lit (.int k z)]∧(Lit.int k z).wf=true
 | 0,_,h=>h.elim
 | n+1,avs,h=>by simpa only [Nj,h1] using h
theorem Ag6 {t:TypeId} (h1:P.underlying t=some .bool):∀ {n:Nat} {avs:List AV},Nj P n t avs→∃ b,avs=[.lit (.bool b)]
 | 0,_,h=>h.elim
 | n+1,avs,h=>by simpa only [Nj,h1] using h
theorem AmV {α:Type} {l:List α} (h:l.length=3):∃ a b c,l=[a,b,c]:=by
 match l,h with
 | [a,b,c],_=>exact ⟨a,b,c,rfl⟩
theorem AmW {α:Type} {l:List α} (h:l.length=7):∃ a b c d e f g,l=[a,b,c,d,e,f,g]:=by
 match l,h with
 | [a,b,c,d,e,f,g],_=>exact ⟨a,b,c,d,e,f,g,rfl⟩
theorem Ag7 {z:Int} (h:(Lit.int .u64 z).wf=true):∃ n:Nat,z=n∧n<18446744073709551616:=by
 simp [Lit.wf,IntKind.min,IntKind.max,IntKind.signed,IntKind.bits] at h;exact ⟨z.toNat,by omega,by omega⟩
theorem AjY (T:AmU P tA tC tN tI tCs tAs tU tU64 tI64 tB tU32):∀ (n:Nat) (avs:List AV),Nj P n tA avs→∃ A,avs=Dg A∧arrOK A:=by
 intro n
 induction n using Nat.strongRecOn with
 | _ n ih =>
   intro avs h;obtain ⟨s1,s2,s3,s4,s5,s6,s7,s8,s9,s10,s11⟩:=T.sz;obtain ⟨b1,b2,b3,b4⟩:=T.by_;cases n with
   | zero=>exact h.elim
   | succ n =>
   obtain ⟨f0,f1,f2,hu,t0,t1,t2,o0,o1,o2⟩:=T.arr;simp only [Nj,hu] at h;obtain ⟨hl,hf⟩:=h;rw [s1] at hl;obtain ⟨x0,x1,x2,rfl⟩:=AmV hl;have e0:=hf 0 f0 rfl;have e1:=hf 1 f1 rfl;have e2:=hf 2 f2 rfl;simp only [t0,t1,t2,o0,o1,o2,s8,s4,s5,List.drop_zero,List.drop_succ_cons,List.take_succ_cons,List.take_zero] at e0 e1 e2;obtain ⟨z0,hz0,w0⟩:=Tb T.u64 e0;obtain ⟨sh,hsh,wsh,lsh⟩:=TS T.ints T.i64 s9 b3 e1;simp only [List.cons.injEq,and_true] at hz0 hsh;obtain ⟨s,rfl,hs⟩:=Ag7 w0;cases n with
   | zero=>exact e2.elim
   | succ n =>
   simp only [Nj,T.cells] at e2;obtain ⟨es,he,hle,hes⟩:=e2;simp only [List.cons.injEq,and_true] at he
   have hcells:∀ (es:List (List AV)),(∀ x ∈ es,Nj P n tC x)→∃ cs:List Ah,es=Nk cs∧CT cs:=by
    intro es
    induction es with
    | nil=>intro _; exact ⟨[],rfl,trivial⟩
    | cons x es ihe =>
      intro hx;obtain ⟨cs,h5,h6⟩:=ihe (fun y hy=>hx y (List.mem_cons_of_mem _ hy));have hx0:=hx x (by simp);cases n with
      | zero=>exact hx0.elim
      | succ n =>
      obtain ⟨g0,g1,g2,g3,g4,hu,q0,q1,q2,q3,q4,p0,p1,p2,p3,p4⟩:=T.cell;simp only [Nj,hu] at hx0;obtain ⟨hl,hf⟩:=hx0;rw [s2] at hl;obtain ⟨y0,y1,y2,y3,y4,y5,y6,rfl⟩:=AmW hl;have e0:=hf 0 g0 rfl;have e1:=hf 1 g1 rfl;have e2:=hf 2 g2 rfl;have e3:=hf 3 g3 rfl;have e4:=hf 4 g4 rfl;simp only [q0,q1,q2,q3,q4,p0,p1,p2,p3,p4,s8,s9,s3,s6,List.drop_zero,List.drop_succ_cons,List.take_succ_cons,List.take_zero] at e0 e1 e2 e3 e4;obtain ⟨z0,hz0,w0⟩:=Tb T.u64 e0;obtain ⟨z1,hz1,w1⟩:=Tb T.i64 e1;obtain ⟨z3,hz3,w3⟩:=Tb T.i64 e3;simp only [List.cons.injEq,and_true] at hz0 hz1 hz3;obtain ⟨l,rfl,hl'⟩:=Ag7 w0;cases n with
      | zero=>exact e2.elim
      | succ n =>
      obtain ⟨k0,k1,k2,hun,r0,r1,r2,m0,m1,m2⟩:=T.num;simp only [Nj,hun] at e2;obtain ⟨_,hfn⟩:=e2;have j0:=hfn 0 k0 rfl;have j1:=hfn 1 k1 rfl;have j2:=hfn 2 k2 rfl;simp only [r0,r1,r2,m0,m1,m2,s10,s7,List.drop_zero,List.drop_succ_cons,List.take_succ_cons,List.take_zero] at j0 j1 j2;obtain ⟨b,hb⟩:=Ag6 T.b j0;obtain ⟨tp,htp,wtp,ltp⟩:=TS T.limbs T.u32 s11 b4 j1;obtain ⟨bt,hbt,wbt,lbt⟩:=TS T.limbs T.u32 s11 b4 j2;simp only [List.cons.injEq,and_true] at hb htp hbt;simp only [Nj,T.arrs] at e4;obtain ⟨is,his,hli,his'⟩:=e4;simp only [List.cons.injEq,and_true] at his
      have hins:∀ (is:List (List AV)),(∀ x ∈ is,Nj P n tA x)→∃ l:List Al,is=W6 l∧Dh l:=by
       intro is
       induction is with
       | nil=>intro _; exact ⟨[],rfl,trivial⟩
       | cons x is ihi =>
         intro hx;obtain ⟨l,h7,h8⟩:=ihi (fun y hy=>hx y (List.mem_cons_of_mem _ hy));obtain ⟨A,hA,hOK⟩:=ih n (by omega) x (hx x (by simp));exact ⟨A::l,by rw [h7,hA]; rfl,hOK,h8⟩
      obtain ⟨ins,rfl,hinsOK⟩:=hins is his';have hil:(W6 ins).length=ins.length:=by rw [Qz]; simp
      refine ⟨.mk l z1 ⟨b,tp,bt⟩ z3 ins::cs,?_,⟨hl',w1,⟨wtp,wbt,ltp,lbt⟩,w3,?_,hinsOK⟩,h6⟩
      ·rw [h5]; simp only [Nk,Av,hz0,hz1,hz3,hb,htp,hbt,his,s1]
      ·rw [hil] at hli; exact Nat.le_trans (Nat.le_mul_of_pos_right _ b1) hli
   obtain ⟨cs,rfl,hcs⟩:=hcells es hes;have hcl:(Nk cs).length=cs.length:=by rw [Nl]; simp
   refine ⟨.mk s sh cs,?_,hs,wsh,lsh,?_,hcs⟩
   ·simp only [Dg,hz0,hsh,he,s2]
   ·rw [hcl] at hle; exact Nat.le_trans (Nat.le_mul_of_pos_right _ b2) hle
end
end Go.Proofs.YtjcolpcfcdkckaaGreat
