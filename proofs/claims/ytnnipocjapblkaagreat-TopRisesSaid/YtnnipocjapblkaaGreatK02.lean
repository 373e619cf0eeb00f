/- An abstract layer over the walk, part 4: values built, blocks made, blocks written. -/
import Derived.Test.YtnnipocjapblkaaGreatK01
import Derived.ProofKit
import Derived.OpenShut
import Derived.SizedLaws
namespace Go.Proofs.YtnnipocjapblkaaGreat
set_option linter.unusedVariables false
open Go.RowKit
def cellsA:AV→Option (List AV)
 | .agg cs=>some cs
 | .any=>none
 | .tup _=>none
 | .lit v=>match v with|.agg _=>none|.tuple _=>none|_=>some [.lit v]
 | x=>some [x]
theorem cellsA_rd {E:Env} {w:World} {av:AV} {cs:List AV} {v:Value} (h:cellsA av=some cs) (hr:Rd E w av v):RdL E w cs v.cells.toList∧Ones v.cells.toList:=by
 have one:∀ {v:Value},v.oneCell'=true→Rd E w av v→cs=[av]→RdL E w cs v.cells.toList∧Ones v.cells.toList:=fun {v} h1 hr e=>by
  have hc:v.cells = #[v]:=by cases v<;>simp [Value.oneCell'] at h1<;>rfl
  rw [hc,e]
  exact ⟨⟨v,[],rfl,hr,rfl⟩,fun u hu=>by simp at hu; subst hu; exact h1⟩
 cases av with
 | any=>simp [cellsA] at h
 | tup l=>simp [cellsA] at h
 | agg l =>
   simp only [cellsA,Option.some.injEq] at h
   subst h
   simp only [Rd] at hr
   obtain ⟨vs,rfl,h0,h2⟩:=hr
   exact ⟨by simpa [Value.cells] using h2,by simpa [Value.cells] using h0⟩
 | lit u =>
   have hv:v=u:=hr
   subst hv
   cases v<;>simp only [cellsA] at h<;>first
    | (cases h; done)
    | (simp only [Option.some.injEq] at h; exact one rfl hr h.symm)
 | sl sz es =>
   simp only [cellsA,Option.some.injEq] at h
   have hr':=hr
   obtain ⟨a,cap,vs,rfl,_⟩:=hr'
   exact one rfl hr h.symm
 | ep sz es i off =>
   simp only [cellsA,Option.some.injEq] at h
   have hr':=hr
   obtain ⟨b,o,vs,rfl,_⟩:=hr'
   exact one rfl hr h.symm
 | own id =>
   simp only [cellsA,Option.some.injEq] at h
   exact one hr.2.1 hr h.symm
 | optr id i off =>
   simp only [cellsA,Option.some.injEq] at h
   have hr':=hr
   obtain ⟨_,b,_,rfl⟩:=hr'
   exact one rfl hr h.symm
 | fn f fi ca =>
   simp only [cellsA,Option.some.injEq] at h
   have hr':=hr
   obtain ⟨vs,us,rfl,_⟩:=hr'
   exact one rfl hr h.symm
 | osl id off n =>
   simp only [cellsA,Option.some.injEq] at h
   have hr':=hr
   obtain ⟨_,b,len,cap,_,_,rfl⟩:=hr'
   exact one rfl hr h.symm
 | sem s =>
   simp only [cellsA,Option.some.injEq] at h
   exact one (s.one _ _ _ hr) hr h.symm
theorem cells_size {av:AV} {cs:List AV} {E:Env} {w:World} {v:Value} (h:cellsA av=some cs) (hr:Rd E w av v):v.cells.size=cs.length:=by
 have:=(cellsA_rd h hr).1.length
 simpa using this
def fillA:List AV→List (Nat × Nat × AV)→Option (List AV)
 | cells,[]=>some cells
 | cells,(off,n,av)::rest=>match cellsA av with
   | some cs=>bif Nat.beq cs.length n && Nat.ble (off+n) cells.length then fillA (cells.take off++(cs++cells.drop (off+n))) rest else none
   | none=>none
theorem setAll_list (off:Nat):∀ (l:List Value) (k:Nat) (cells:Array Value),off+k+l.length≤cells.size →
 ((l.zipIdx k).foldl (fun cs (p:Value × Nat)=>cs.setIfInBounds (off+p.2) p.1) cells).toList=cells.toList.take (off+k)++(l++cells.toList.drop (off+k+l.length))
 | [],k,cells,h=>by simp
 | v::l,k,cells,h=>by
   simp only [List.length_cons] at h
   simp only [List.zipIdx_cons,List.foldl_cons]
   rw [setAll_list off l (k+1) _ (by simp; omega)]
   simp only [Array.toList_setIfInBounds]
   obtain ⟨A,x,D,hA,hAl⟩:∃ A x D,cells.toList=A++x::D∧A.length=off+k :=
    ⟨cells.toList.take (off+k),cells.toList[off+k]'(by simp; omega),cells.toList.drop (off+k+1),by
     rw [← List.drop_eq_getElem_cons,List.take_append_drop],by simp; omega⟩
   rw [hA]
   have e1:(A++x::D).set (off+k) v=A++v::D:=by rw [← hAl]; simp
   rw [e1]
   have t1:(A++v::D).take (off+(k+1))=A++[v]:=by
    rw [show off+(k+1)=A.length+1 from by omega,List.take_length_add_append]; rfl
   have t2:(A++x::D).take (off+k)=A:=by rw [← hAl]; simp
   have d1:(A++v::D).drop (off+(k+1)+l.length)=D.drop l.length:=by
    rw [show off+(k+1)+l.length=A.length+(l.length+1) from by omega,List.drop_length_add_append]; rfl
   have d2:(A++x::D).drop (off+k+(v::l).length)=D.drop l.length:=by
    rw [List.length_cons,show off+k+(l.length+1)=A.length+(l.length+1) from by omega,List.drop_length_add_append]; rfl
   rw [t1,t2,d1,d2]
   simp
def Parts (E:Env) (w:World) (place:Nat→Option (Nat × Nat)):List (Nat × Value)→List (Nat × Nat × AV)→Prop
 | [],[]=>True
 | p::ps,q::qs=>(place p.1=some (q.1,q.2.1)∧Rd E w q.2.2 p.2)∧Parts E w place ps qs
 | _,_=>False
theorem fill_run {E:Env} {w:World} {place:Nat→Option (Nat × Nat)}:∀ {ps:List (Nat × Value)} {qs:List (Nat × Nat × AV)} {cells:Array Value} {cs cs':List AV},RdL E w cs cells.toList→Ones cells.toList →
 Parts E w place ps qs→fillA cs qs=some cs' →
  ∃ out,Instr.fill place cells ps=some out∧RdL E w cs' out.toList∧Ones out.toList
 | [],[],cells,cs,cs',h,h1,_,e=>by
   simp only [fillA,Option.some.injEq] at e; subst e
   exact ⟨cells,rfl,h,h1⟩
 | [],_::_,_,_,_,_,_,hf,_=>hf.elim
 | _::_,[],_,_,_,_,_,hf,_=>hf.elim
 | (i,v)::ps,(off,n,av)::qs,cells,cs,cs',h,h1,hf,e=>by
   obtain ⟨hp,hf⟩:=hf
   obtain ⟨hpl,hrd⟩:=hp
   simp only at hpl hrd
   simp only [fillA] at e
   cases hc:cellsA av with
   | none=>simp [hc] at e
   | some vc =>
     simp only [hc] at e
     cases hb:(Nat.beq vc.length n && Nat.ble (off+n) cs.length) with
     | false=>simp [hb] at e
     | true =>
       rw [hb,cond_true] at e
       simp only [Bool.and_eq_true] at hb
       have hn:=Nat.eq_of_beq_eq_true hb.1
       have hle:=Nat.le_of_ble_eq_true hb.2
       have hlen:=h.length
       have hvs:=cells_size hc hrd
       obtain ⟨k1,k2⟩:=cellsA_rd hc hrd
       have hset:=setAll_list off v.cells.toList 0 cells (by simp at hlen ⊢; omega)
       have hz:v.cells.zipIdx.foldl (fun cs (p:Value × Nat)=>cs.setIfInBounds (off+p.2) p.1) cells=(v.cells.toList.zipIdx.foldl (fun cs (p:Value × Nat)=>cs.setIfInBounds (off+p.2) p.1) cells):=by
        rw [← Array.foldl_toList]; simp
       have hlv:v.cells.toList.length=n:=by simp; omega
       rw [hlv,Nat.add_zero] at hset
       have hrd2:RdL E w (cs.take off++(vc++cs.drop (off+n))) (v.cells.zipIdx.foldl (fun cs (p:Value × Nat)=>cs.setIfInBounds (off+p.2) p.1) cells).toList:=by
        rw [hz,hset]; exact (h.take off).append (k1.append (h.drop (off+n)))
       have h12:Ones (v.cells.zipIdx.foldl (fun cs (p:Value × Nat)=>cs.setIfInBounds (off+p.2) p.1) cells).toList:=by
        rw [hz,hset]
        intro u hu
        simp only [List.mem_append] at hu
        rcases hu with hu|hu|hu
        ·exact h1 u (List.mem_of_mem_take hu)
        ·exact k2 u hu
        ·exact h1 u (List.mem_of_mem_drop hu)
       obtain ⟨out,o1,o2,o3⟩:=fill_run hrd2 h12 hf e
       refine ⟨out,?_,o2,o3⟩
       simp only [Instr.fill,hpl]
       rw [if_neg (by simp at hlen ⊢; omega)]
       exact o1
def newE (E:Env) (id:Nat) (V:Value) (sz:Nat):Env:=⟨E.im,fun k=>E.live k∨k=id,fun k=>bif Nat.beq k id then V else E.val k,fun k=>bif Nat.beq k id then sz else E.sz k⟩
theorem newE_live {E:Env} {id:Nat} {V:Value} {sz:Nat} (hid:¬ E.live id):∀ k,E.live k→(newE E id V sz).live k∧(newE E id V sz).val k=E.val k∧(newE E id V sz).sz k=E.sz k:=fun k hk=>by
 have:k≠id:=fun e=>hid (e ▸ hk)
 exact ⟨.inl hk,by simp [newE,beq_ne this],by simp [newE,beq_ne this]⟩
def oldUpd:Option Nat→Hp
 | some k=>[(k,none)]
 | none=>[]
theorem hl_old {old:Option Nat} {h:Hp} {k:Nat} {o:OB} (e:hl (oldUpd old++h) k=some o):old≠some k∧hl h k=some o:=by
 cases old with
 | none=>exact ⟨by simp,e⟩
 | some j =>
   by_cases hj:j=k
   ·subst hj
    simp [oldUpd,hl,look] at e
   ·refine ⟨by simpa using hj,?_⟩
    simpa [oldUpd,hl,look,beq_ne hj] using e
theorem hl_new {id k:Nat} {x:Option OB} {h:Hp} {o:OB} (e:hl ((id,x)::h) k=some o):(k=id∧x=some o)∨(k≠id∧hl h k=some o):=by
 by_cases hk:id=k
 ·subst hk
  simp only [hl,look,Nat.beq_refl,cond_true] at e
  left
  cases x with
  | none=>simp at e
  | some y=>simp only [Option.some.injEq] at e; exact ⟨rfl,by rw [e]⟩
 ·right
  exact ⟨fun e=>hk e.symm,by simpa [hl,look,beq_ne hk] using e⟩
theorem Rel.new {C:Ctx} {E:Env} {st:St} {a:Act} {w w':World} (R:Rel C E st a w) {id:Nat} (hid:¬ E.live id) (hnx:id<st.nx) (old:Option Nat) (row:Option Nat) (hg:w.grownBy w' row)
 (hrow:∀ b,row=some b→∃ k o,old=some k∧E.live k∧hl st.h k=some o∧blkOf (E.val k)=some b∧o.ro=false) {ob:OB} {V:Value} (hob:obOK (newE E id V ob.sz) w' id ob) (hro:ob.ro=false)
 (hV:∀ b,blkOf V=some b→w.heap.size≤b∨row=some b):Rel C (newE E id V ob.sz) ⟨st.t,(id,some ob)::(oldUpd old++st.h),st.nx⟩ a w':=by
 have hl0:=newE_live (V:=V) (sz:=ob.sz) hid
 have hlive:∀ k,(newE E id V ob.sz).live k→k≠id→E.live k:=fun k h hk=>by
  rcases h with h|h
  ·exact h
  ·exact absurd h hk
 have hrowim:∀ b,row=some b→¬ E.im b:=fun b hb him=>by
  obtain ⟨k,o,_,h2,h3,h4,h5⟩:=hrow b hb
  have:=(R.heap.im k o b h2 h3 h4).1 him
  rw [h5] at this; cases this
 have hw:∀ b,E.im b→w'.heap[b]? = w.heap[b]? := fun b hb=>hg.block b (R.heap.lt b hb) (fun e=>hrowim b e.symm hb)
 have hval:(newE E id V ob.sz).val id=V:=by simp [newE]
 have hkeep:∀ k o b,E.live k→hl st.h k=some o→old≠some k→blkOf (E.val k)=some b→row≠some b:=fun k o b h1 h2 h3 h4 h5=>by
  obtain ⟨k',o',e1,e2,e3,e4,_⟩:=hrow b h5
  have:=R.heap.apart k k' o o' b h1 e2 h2 e3 h4 e4
  rw [this] at h3; exact h3 e1
 refine ⟨R.defers,R.size,fun n=>Rd.mono hl0 (fun b h=>h) hw _ _ (R.tm n),⟨?_,?_,?_,?_⟩,?_,?_,?_,R.imx,R.imn,?_⟩
 ·intro k o hk ho
  rcases hl_new ho with ⟨rfl,e⟩|⟨hne,ho⟩
  ·simp only [Option.some.injEq] at e; subst e; exact hob
  ·obtain ⟨h1,h2⟩:=hl_old ho
   have hkl:=hlive k hk hne
   refine (R.heap.ob k o hkl h2).mono (hl0 k hkl).2 hl0 (fun b h=>h) hw (fun b hb=>hg.block b (R.heap.blk_lt hkl h2 hb) (fun e=>hkeep k o b hkl h2 h1 hb e.symm))
 ·intro k k' o o' b hk hk' ho ho' hb hb'
  rcases hl_new ho with ⟨e1,e⟩|⟨hne,p1⟩<;>rcases hl_new ho' with ⟨e2,e'⟩|⟨hne',p2⟩
  ·rw [e1,e2]
  ·exfalso
   subst e1
   rw [hval] at hb
   obtain ⟨h1,h2⟩:=hl_old p2
   have hkl:=hlive k' hk' hne'
   rw [(hl0 k' hkl).2.1] at hb'
   rcases hV b hb with h|h
   ·have:=R.heap.blk_lt hkl h2 hb'; omega
   ·exact hkeep k' o' b hkl h2 h1 hb' h
  ·exfalso
   subst e2
   rw [hval] at hb'
   obtain ⟨h1,h2⟩:=hl_old p1
   have hkl:=hlive k hk hne
   rw [(hl0 k hkl).2.1] at hb
   rcases hV b hb' with h|h
   ·have:=R.heap.blk_lt hkl h2 hb; omega
   ·exact hkeep k o b hkl h2 h1 hb h
  ·obtain ⟨h1,h2⟩:=hl_old p1
   obtain ⟨h1',h2'⟩:=hl_old p2
   have hkl:=hlive k hk hne
   have hkl':=hlive k' hk' hne'
   rw [(hl0 k hkl).2.1] at hb
   rw [(hl0 k' hkl').2.1] at hb'
   exact R.heap.apart k k' o o' b hkl hkl' h2 h2' hb hb'
 ·intro k o b hk ho hb
  rcases hl_new ho with ⟨rfl,e⟩|⟨hne,ho⟩
  ·simp only [Option.some.injEq] at e; subst e
   rw [hval] at hb
   rw [hro]
   constructor
   ·intro him
    have him':E.im b:=him
    rcases hV b hb with h|h
    ·have:=R.heap.lt b him'; omega
    ·exact absurd him' (hrowim b h)
   ·intro h; cases h
  ·obtain ⟨h1,h2⟩:=hl_old ho
   have hkl:=hlive k hk hne
   rw [(hl0 k hkl).2.1] at hb
   exact R.heap.im k o b hkl h2 hb
 ·exact fun b hb=>Nat.lt_of_lt_of_le (R.heap.lt b hb) hg.size
 ·intro k hk
  rcases hk with h|h
  ·exact R.nx k h
  ·rw [h]; exact hnx
 ·intro k o b hk ho hb
  rcases hl_new ho with ⟨rfl,e⟩|⟨hne,ho⟩
  ·rw [hval] at hb
   rcases hV b hb with h|h
   ·have:=R.frm.size; exact .inl (by omega)
   ·obtain ⟨k',o',e1,e2,e3,e4,_⟩:=hrow b h
    exact R.own k' o' b e2 e3 e4
  ·obtain ⟨h1,h2⟩:=hl_old ho
   have hkl:=hlive k hk hne
   rw [(hl0 k hkl).2.1] at hb
   exact R.own k o b hkl h2 hb
 ·intro k hk
  obtain ⟨k1,k2,k3⟩:=R.ext k hk
  obtain ⟨j1,j2,j3⟩:=hl0 k k1
  exact ⟨j1,by rw [j2]; exact k2,by rw [j3]; exact k3⟩
 ·refine ⟨hg.os.trans R.frm.os,hg.tape.trans R.frm.tape,hg.output.trans R.frm.output,Nat.le_trans R.frm.size hg.size,fun k hk hX => ?_⟩
  refine (hg.block k (Nat.lt_of_lt_of_le hk R.frm.size) (fun e => ?_)).trans (R.frm.block k hk hX)
  obtain ⟨k',o',e1,e2,e3,e4,_⟩:=hrow k e.symm
  rcases R.own k' o' k e2 e3 e4 with h|h
  ·omega
  ·exact hX h
theorem step_new {P:Program} {st:St} {i:AInst} {ob:OB} (rd:List Nat) (hg:gOK st i.g)
 (h:∀ (o:Oper) (C:Ctx) (E:Env) (a:Act) (w:World) (sx:St),lowerO P o.op=some i.op→Rel C E sx a w→(∀ x ∈ i.op.opds,Rd E w (ev st x) (a.eval x))→(∀ id ∈ rd,hl sx.h id=hl st.h id)→¬ E.live st.nx →
  ∃ V w',(execOp a.eval o).run P w=.ok (.value V) w'∧w.grownBy w' none∧obOK (newE E st.nx V ob.sz) w' st.nx ob∧(∀ b,blkOf V=some b→w.heap.size≤b)∧V.oneCell'=true∧(ob.row=false→∃ b,V=.pointer (some ⟨b,0,none⟩))) (hro:ob.ro=false) :
 Step P st ⟨i,bif ob.row then .own st.nx else .optr st.nx 0 0,rd,[(st.nx,some ob)],1⟩:=by
 intro N ops o hlow C E a w sx hN R hag hh hnw K Q hK
 rw [if_pos (wanted_of hlow R hag hg)]
 obtain ⟨h1,h2,h3,h4⟩:=lower_parts hlow
 obtain ⟨hnl,hnx⟩:=hnw 0 (Nat.lt_succ_self 0)
 obtain ⟨V,w',hu,hgr,hob,hV,h1c,hbox⟩:=h o C E a w sx h3 R (fun x hx=>eval_of R hag hx) (fun id hid=>hh id (.inl hid)) hnl
 unfold Oper.wp
 rw [hu,Oper.upon_value]
 have hR:=Rel.new R hnl hnx none none hgr (fun b hb=>by cases hb) hob hro (fun b hb=>.inl (hV b hb))
 refine hK V w' (newE E st.nx V ob.sz) ?_ (fun id hid=>hid.elim (fun h=>.inl h) (fun h=>.inr ⟨0,Nat.lt_succ_self 0,h⟩))
 have hrd:Rd (newE E st.nx V ob.sz) w' (bif ob.row then .own st.nx else .optr st.nx 0 0) V:=by
  cases hrow:ob.row with
  | true=>exact ⟨.inr rfl,h1c,by simp [newE]⟩
  | false =>
    obtain ⟨b,rfl⟩:=hbox hrow
    exact ⟨.inr rfl,b,by simp [newE,ptrOf],by simp⟩
 have:=hR.put (d:=o.dst) (fun k hk=>by rw [hN]; exact h2 k hk) hrd
 simp only [St.appx]
 rw [h1]
 exact this
theorem zeroOf_spec {P:Program} {t:TypeId} {z:List Value} {sz by_:Nat} (h:zeroOf P t=some (z,sz,by_)):∃ i zv,P.info? t=some i∧i.zero=some zv∧z=zv.cells.toList∧i.size=sz∧i.bytes=by_∧z.length=sz∧Ones z∧0<sz∧0<by_:=by
 simp only [zeroOf] at h
 split at h
 ·rename_i i hi
  split at h
  ·rename_i zv hz
   split at h
   ·rename_i hc
    simp only [Bool.and_eq_true] at hc
    simp only [Option.some.injEq,Prod.mk.injEq] at h
    obtain ⟨rfl,rfl,rfl⟩:=h
    refine ⟨i,zv,hi,hz,rfl,rfl,rfl,?_,?_,by simpa [Nat.blt_eq] using hc.1.2,by simpa [Nat.blt_eq] using hc.2⟩
    ·have:=Nat.eq_of_beq_eq_true hc.1.1.1; simpa using this
    ·intro u hu
     have:=hc.1.1.2
     rw [Array.all_eq_true_iff_forall_mem] at this
     exact this u (by simpa using hu)
   ·cases h
  ·cases h
 ·cases h
theorem box_ok {E:Env} {w:World} {id:Nat} {e:TypeId} {vs:List Value} {cs:List AV} (hn:0<vs.length) (h1:Ones vs) (hr:RdL (newE E id (.pointer (some ⟨w.heap.size,0,none⟩)) vs.length) (w.alloc (.cells vs.toArray e)) cs vs) :
 obOK (newE E id (.pointer (some ⟨w.heap.size,0,none⟩)) vs.length) (w.alloc (.cells vs.toArray e)) id ⟨false,false,e,vs.length,[cs]⟩ :=
  ⟨by simp [newE],.inl ⟨hn,w.heap.size,vs,cs,by simp [newE],heap_alloc_new w _,rfl,rfl,hr,h1⟩⟩
section
variable {P:Program} {st:St} {d:Option Nat} {g:Option (Nat × Bool)}
theorem q_alloc {e:TypeId} {z:List Value} (hg:gOK st g):Step P st ⟨⟨d,g,.alloc e z⟩,.optr st.nx 0 0,[],[(st.nx,some ⟨false,false,e,z.length,[z.map .lit]⟩)],1⟩ :=
 step_new (ob:=⟨false,false,e,z.length,[z.map .lit]⟩) [] hg (fun o C E ac w sx hlow R hr hh hnl=>by
  obtain ⟨dst,o,ty,pos,after,guard⟩:=o
  obtain ⟨rfl,sz,by_,hz⟩:=low_spec hlow
  obtain ⟨i,zv,k1,k2,k3,k4,k5,k6,k7,k8,_⟩:=zeroOf_spec hz
  refine ⟨.pointer (some ⟨w.heap.size,0,none⟩),w.alloc (.cells z.toArray e),?_,World.grownBy_alloc w _ none,box_ok (by omega) k7 (rdL_lits z),fun b hb=>by simp [blkOf] at hb; omega,rfl,fun _=>⟨_,rfl⟩⟩
  have hzv:zv.cells=z.toArray:=by rw [k3]
  simp [execOp,Instr.alloc,zeroValue,typeInfo,k1,k2,newVar,newRow,hzv]) rfl
theorem q_box {e:TypeId} {n:Nat} {x:Operand} {av:AV} {cs:List AV} (hg:gOK st g) (hx:ev st x=av) (hc:cellsA av=some cs) (hn:cs.length=n):Step P st ⟨⟨d,g,.box e n x⟩,.optr st.nx 0 0,[],[(st.nx,some ⟨false,false,e,n,[cs]⟩)],1⟩ :=
 step_new (ob:=⟨false,false,e,n,[cs]⟩) [] hg (fun o C E ac w sx hlow R hr hh hnl=>by
  have h1:=hr x (by simp [AOp.opds])
  rw [hx] at h1
  obtain ⟨dst,o,ty,pos,after,guard⟩:=o
  obtain ⟨rfl,gg,hs,hpos⟩:=low_spec hlow
  obtain ⟨c1,c2⟩:=cellsA_rd hc h1
  have hlen:(ac.eval x).cells.toList.length=n:=by have:=cells_size hc h1; simp; omega
  have hgrow:=World.grownBy_alloc w (.cells (ac.eval x).cells e) none
  refine ⟨.pointer (some ⟨w.heap.size,0,none⟩),w.alloc (.cells (ac.eval x).cells e),?_,hgrow,?_,fun b hb=>by simp [blkOf] at hb; omega,rfl,fun _=>⟨_,rfl⟩⟩
  ·simp [execOp,Instr.box,newVar,newRow]
  ·have hb:=box_ok (E:=E) (w:=w) (id:=st.nx) (e:=e) (vs:=(ac.eval x).cells.toList) (cs:=cs) (by omega) c2 (RdL.mono (newE_live hnl) (fun b h=>h) (fun b hb=>hgrow.block b (R.heap.lt b hb) (by simp)) _ _ (by simpa using c1))
   simp only [hlen,Array.toArray_toList] at hb
   exact hb) rfl
theorem placesAll {P:Program} {w:World}:∀ (fs:List Field),(∀ f ∈ fs,(P.info? f.type).isSome=true)→(fs.mapM fun (f:Field)=>(do pure (f.offset,← sizeOf f.type):Sem (Nat × Nat))).run P w=.ok (fs.map fun f=>(f.offset,P.cellsOf f.type)) w
 | [],_=>rfl
 | f::fs,h=>by
   obtain ⟨i,hi⟩:=Option.isSome_iff_exists.1 (h f (by simp))
   have h1:(do pure (f.offset,← sizeOf f.type):Sem (Nat × Nat)).run P w=.ok (f.offset,P.cellsOf f.type) w:=by
    simp [sizeOf,typeInfo,hi,Program.cellsOf]
   rw [List.mapM_cons,Sem.run_bind,h1,Result.andThen_ok,Sem.run_bind,placesAll fs (fun f hf=>h f (by simp [hf]))]
   simp only [Result.andThen_ok,Sem.run_pure,List.map_cons]
theorem parts_of {E:Env} {w:World} {ac:Act} {t:TypeId} {place:Nat→Option (Nat × Nat)} (hp:∀ n q,placesOf P t n=some q→place n=some q):∀ {l:List (Nat × Operand)} {ps:List (Nat × Nat × Operand)},optAll (fun p:Nat × Operand=>(placesOf P t p.1).map fun q=>(q.1,q.2,p.2)) l=some ps →
 (∀ p ∈ ps,Rd E w (ev st p.2.2) (ac.eval p.2.2))→Parts E w place (l.map fun p=>(p.1,ac.eval p.2)) (ps.map fun p=>(p.1,p.2.1,ev st p.2.2))
 | [],ps,h,_=>by simp only [optAll,Option.some.injEq] at h; subst h; trivial
 | p::l,ps,h,hr=>by
   simp only [optAll] at h
   cases hq:placesOf P t p.1 with
   | none=>simp [hq] at h
   | some q =>
     cases hl:optAll (fun p:Nat × Operand=>(placesOf P t p.1).map fun q=>(q.1,q.2,p.2)) l with
     | none=>simp [hl] at h
     | some ps' =>
       simp only [hq,Option.map_some,hl,Option.some.injEq] at h
       subst h
       exact ⟨⟨hp _ _ hq,hr (q.1,q.2,p.2) (by simp)⟩,parts_of hp hl (fun p hp'=>hr p (by simp [hp']))⟩
theorem q_build {z:List Value} {ps:List (Nat × Nat × Operand)} {cs:List AV} (hg:gOK st g) (hf:fillA (z.map .lit) (ps.map fun p=>(p.1,p.2.1,ev st p.2.2))=some cs):Step P st ⟨⟨d,g,.build z ps⟩,.agg cs,[],[],0⟩ :=
 step_val [] hg fun o C E ac w sx hlow R hr hh=>by
  obtain ⟨dst,o,ty,pos,after,guard⟩:=o
  obtain ⟨t,l,sz,by_,rfl,hz,hl,hfo⟩:=low_spec hlow
  obtain ⟨i,zv,k1,k2,k3,k4,k5,k6,k7,_⟩:=zeroOf_spec hz
  have hzv:zv.cells=z.toArray:=by rw [k3]
  have hzr:(zeroValue t).run P w=.ok zv w:=by simp [zeroValue,typeInfo,k1,k2]
  have hrr:∀ p ∈ ps,Rd E w (ev st p.2.2) (ac.eval p.2.2):=fun p hp=>hr p.2.2 (by simp [AOp.opds]; exact ⟨p.1,p.2.1,hp⟩)
  have hrd0:RdL E w (z.map .lit) zv.cells.toList:=by rw [hzv]; exact rdL_lits z
  have h10:Ones zv.cells.toList:=by rw [hzv]; exact k7
  have hpl:(l.map fun (p:Nat × Operand)=>(p.1,ac.eval p.2)).toList=l.toList.map fun p=>(p.1,ac.eval p.2):=by simp
  unfold fieldsOK at hfo
  split at hfo
  ·rename_i fs hu
   simp only [List.all_eq_true] at hfo
   have hpla:∀ n q,placesOf P t n=some q→(fs.map fun f=>(f.offset,P.cellsOf f.type))[n]? = some q:=fun n q hq=>by
    simp only [placesOf,hu] at hq
    split at hq
    ·rename_i f hf
     simp only [Option.map_eq_some_iff] at hq
     obtain ⟨j,hj,rfl⟩:=hq
     simp [hf,Program.cellsOf,hj]
    ·cases hq
   obtain ⟨out,o1,o2,o3⟩:=fill_run (place:=fun n=>(fs.map fun f=>(f.offset,P.cellsOf f.type))[n]?) hrd0 h10 (parts_of (P:=P) (st:=st) hpla hl hrr) hf
   refine ⟨.agg out,?_,out.toList,by simp,o3,o2⟩
   have hpm:(fs.mapM fun (f:Field)=>(do pure (f.offset,← sizeOf f.type):Sem (Nat × Nat))).run P w=.ok (fs.map fun f=>(f.offset,P.cellsOf f.type)) w:=by
    rw [Array.mapM_eq_mapM_toList,map_eq_pure_bind,Sem.run_bind,placesAll fs.toList hfo]
    simp only [Result.andThen_ok,Sem.run_pure,← Array.toList_map,Array.toArray_toList]
   simp only [execOp,Instr.build,Sem.run_bind,hzr,Result.andThen_ok,run_underlying hu w,hpm,hpl,o1,Sem.run_pure]
  ·rename_i len e hu
   obtain ⟨j,hj⟩:=Option.isSome_iff_exists.1 hfo
   have hpla:∀ n q,placesOf P t n=some q→some (n * j.size,j.size)=some q:=fun n q hq=>by
    simpa [placesOf,hu,hj] using hq
   obtain ⟨out,o1,o2,o3⟩:=fill_run (place:=fun n=>some (n * j.size,j.size)) hrd0 h10 (parts_of (P:=P) (st:=st) hpla hl hrr) hf
   refine ⟨.agg out,?_,out.toList,by simp,o3,o2⟩
   have hsz:(sizeOf e).run P w=.ok j.size w:=by simp [sizeOf,typeInfo,hj]
   simp only [execOp,Instr.build,Sem.run_bind,hzr,Result.andThen_ok,run_underlying hu w,hsz,hpl,o1,Sem.run_pure]
  ·cases hfo
end
def chunk (sz:Nat):Nat→List AV→List (List AV)
 | 0,_=>[]
 | n+1,cs=>cs.take sz::chunk sz n (cs.drop sz)
theorem RdIL.take {im:Nat→Prop} {w:World}:∀ (n:Nat) {l:List AV} {vs:List Value},RdIL im w l vs→RdIL im w (l.take n) (vs.take n)
 | 0,l,vs,h=>by simp [RdIL]
 | n+1,[],vs,h=>by simp only [RdIL] at h; subst h; simp [RdIL]
 | n+1,a::l,vs,h=>by
   simp only [RdIL] at h
   obtain ⟨v,rest,rfl,h2,h3⟩:=h
   simp only [List.take_succ_cons,RdIL]
   exact ⟨v,rest.take n,rfl,h2,RdIL.take n h3⟩
theorem RdIL.drop {im:Nat→Prop} {w:World}:∀ (n:Nat) {l:List AV} {vs:List Value},RdIL im w l vs→RdIL im w (l.drop n) (vs.drop n)
 | 0,l,vs,h=>by simpa using h
 | n+1,[],vs,h=>by simp only [RdIL] at h; subst h; simp [RdIL]
 | n+1,a::l,vs,h=>by
   simp only [RdIL] at h
   obtain ⟨v,rest,rfl,_,h3⟩:=h
   simpa using RdIL.drop n h3
theorem RdIL.append {im:Nat→Prop} {w:World}:∀ {l:List AV} {vs:List Value} {l':List AV} {vs':List Value},RdIL im w l vs→RdIL im w l' vs'→RdIL im w (l++l') (vs++vs')
 | [],vs,l',vs',h,h'=>by simp only [RdIL] at h; subst h; simpa using h'
 | a::l,vs,l',vs',h,h'=>by
   simp only [RdIL] at h
   obtain ⟨v,rest,rfl,h2,h3⟩:=h
   simp only [List.cons_append,RdIL]
   exact ⟨v,rest++vs',rfl,h2,h3.append h'⟩
theorem RdIE.append {im:Nat→Prop} {w:World} {sz:Nat}:∀ {l:List (List AV)} {vs:List Value} {l':List (List AV)} {vs':List Value},RdIE im w sz l vs→RdIE im w sz l' vs'→RdIE im w sz (l++l') (vs++vs')
 | [],vs,l',vs',h,h'=>by simp only [RdIE] at h; subst h; simpa using h'
 | a::l,vs,l',vs',h,h'=>by
   simp only [RdIE] at h
   obtain ⟨v,rest,rfl,h1,h2,h3⟩:=h
   simp only [List.cons_append,RdIE]
   exact ⟨v,rest++vs',by rw [List.append_assoc],h1,h2,h3.append h'⟩
theorem RdIE.length {im:Nat→Prop} {w:World} {sz:Nat}:∀ {es:List (List AV)} {vs:List Value},RdIE im w sz es vs→vs.length=es.length * sz
 | [],vs,h=>by simp only [RdIE] at h; simp [h]
 | e::es,vs,h=>by
   simp only [RdIE] at h
   obtain ⟨x,rest,rfl,h1,_,h3⟩:=h
   rw [List.length_append,h1,RdIE.length h3,List.length_cons,Nat.add_mul,Nat.one_mul,Nat.add_comm]
theorem chunk_rd {im:Nat→Prop} {w:World} {sz:Nat}:∀ (n:Nat) {cs:List AV} {vs:List Value},RdIL im w cs vs→vs.length=n * sz→RdIE im w sz (chunk sz n cs) vs
 | 0,cs,vs,h,hl=>by
   have:vs=[]:=List.eq_nil_of_length_eq_zero (by simpa using hl)
   subst this; rfl
 | n+1,cs,vs,h,hl=>by
   have hge:sz≤vs.length:=by rw [hl,Nat.add_mul,Nat.one_mul]; omega
   refine ⟨vs.take sz,vs.drop sz,(List.take_append_drop _ _).symm,by simp; omega,h.take sz,chunk_rd n (h.drop sz) ?_⟩
   rw [List.length_drop,hl,Nat.add_mul,Nat.one_mul]; omega
theorem chunk_length (sz:Nat):∀ (n:Nat) (cs:List AV),(chunk sz n cs).length=n
 | 0,_=>rfl
 | n+1,cs=>by simp [chunk,chunk_length sz n]
theorem RdIE.set {im:Nat→Prop} {w:World} {sz:Nat}:∀ {es:List (List AV)} {vs:List Value} {i:Nat} {e':List AV} {x':List Value},RdIE im w sz es vs→i<es.length→RdIL im w e' x'→x'.length=sz →
 RdIE im w sz (es.set i e') (vs.take (i * sz)++(x'++vs.drop (i * sz+sz)))
 | [],vs,i,e',x',h,hi,_,_=>by simp at hi
 | e::es,vs,0,e',x',h,hi,he,hx=>by
   simp only [RdIE] at h
   obtain ⟨x,rest,rfl,h1,h2,h3⟩:=h
   simp only [List.set_cons_zero,RdIE]
   refine ⟨x',rest,?_,hx,he,h3⟩
   rw [Nat.zero_mul,List.take_zero,List.nil_append,Nat.zero_add,← h1,List.drop_left]
 | e::es,vs,i+1,e',x',h,hi,he,hx=>by
   simp only [RdIE] at h
   obtain ⟨x,rest,rfl,h1,h2,h3⟩:=h
   simp only [List.set_cons_succ,RdIE]
   refine ⟨x,rest.take (i * sz)++(x'++rest.drop (i * sz+sz)),?_,h1,h2,RdIE.set h3 (by simpa using hi) he hx⟩
   have e1:(i+1) * sz=x.length+i * sz:=by rw [Nat.add_mul,Nat.one_mul,h1,Nat.add_comm]
   rw [e1,List.take_length_add_append,Nat.add_assoc,List.drop_length_add_append,List.append_assoc]
theorem pure_rdL {E:Env} {w:World} {cs cs':List AV} {vs:List Value} (h:mapL (fun _=>none) cs=some cs') (hr:RdL E w cs vs):RdIL E.im w cs' vs :=
 mapL_rd (fun b h=>h) (fun x y v _ e=>by cases e) cs vs cs' hr h
theorem Rel.upd {C:Ctx} {E:Env} {st:St} {a:Act} {w w':World} (R:Rel C E st a w) {id b:Nat} {o0 ob:OB} (hl1:E.live id) (ho:hl st.h id=some o0) (hro:o0.ro=false) (hb:blkOf (E.val id)=some b) (hg:w.grownBy w' (some b))
 (hob:obOK E w' id ob) (hro':ob.ro=false):Rel C E ⟨st.t,(id,some ob)::st.h,st.nx⟩ a w':=by
 have hnim:¬ E.im b:=fun h=>by have:=(R.heap.im id o0 b hl1 ho hb).1 h; rw [hro] at this; cases this
 have hw:∀ k,E.im k→w'.heap[k]? = w.heap[k]? := fun k hk=>hg.block k (R.heap.lt k hk) (fun e=>by simp at e; subst e; exact hnim hk)
 refine ⟨R.defers,R.size,fun n=>Rd.mono (fun k h=>⟨h,rfl,rfl⟩) (fun k h=>h) hw _ _ (R.tm n),⟨?_,?_,?_,fun k hk=>Nat.lt_of_lt_of_le (R.heap.lt k hk) hg.size⟩,R.nx,?_,R.ext,R.imx,R.imn,?_⟩
 ·intro k o hk hh
  rcases hl_new hh with ⟨rfl,e⟩|⟨hne,p1⟩
  ·simp only [Option.some.injEq] at e; subst e; exact hob
  ·exact (R.heap.ob k o hk p1).mono ⟨rfl,rfl⟩ (fun k h=>⟨h,rfl,rfl⟩) (fun k h=>h) hw (fun b' hb'=>hg.block b' (R.heap.blk_lt hk p1 hb') (fun e=>by
    simp at e; subst e
    exact hne (R.heap.apart k id o o0 b' hk hl1 p1 ho hb' hb)))
 ·intro k k' o o' b' hk hk' hh hh' hb1 hb2
  have e:∀ j oj,hl ((id,some ob)::st.h) j=some oj→∃ oj',hl st.h j=some oj':=fun j oj hj=>by
   rcases hl_new hj with ⟨rfl,_⟩|⟨_,p⟩
   ·exact ⟨o0,ho⟩
   ·exact ⟨oj,p⟩
  obtain ⟨q1,e1⟩:=e k o hh
  obtain ⟨q2,e2⟩:=e k' o' hh'
  exact R.heap.apart k k' q1 q2 b' hk hk' e1 e2 hb1 hb2
 ·intro k o b' hk hh hb'
  rcases hl_new hh with ⟨rfl,e⟩|⟨hne,p1⟩
  ·simp only [Option.some.injEq] at e; subst e
   rw [hro',← hro]; exact R.heap.im k o0 b' hk ho hb'
  ·exact R.heap.im k o b' hk p1 hb'
 ·intro k o b' hk hh hb'
  rcases hl_new hh with ⟨rfl,e⟩|⟨hne,p1⟩
  ·exact R.own k o0 b' hk ho hb'
  ·exact R.own k o b' hk p1 hb'
 ·refine ⟨hg.os.trans R.frm.os,hg.tape.trans R.frm.tape,hg.output.trans R.frm.output,Nat.le_trans R.frm.size hg.size,fun k hk hX => ?_⟩
  refine (hg.block k (Nat.lt_of_lt_of_le hk R.frm.size) (fun e => ?_)).trans (R.frm.block k hk hX)
  simp at e; subst e
  rcases R.own id o0 k hl1 ho hb with h|h
  ·omega
  ·exact hX h
theorem setRow_grown {w:World} {g:Nat} {cs:Array Value}:w.grownBy (w.setRow g cs) (some g) :=
 ⟨rfl,rfl,rfl,by simp [World.setRow],fun k hk hne=>by
  simp only [World.setRow,Array.getElem?_modify]
  rw [if_neg (fun e=>hne (by rw [e]))]⟩
theorem splice_take {α:Type} (L X:List α) (I off n sz M:Nat) (hM:I+sz≤M) (hML:M≤L.length) (hX:X.length=n) (ho:off+n≤sz) :
 (L.take (I+off)++(X++L.drop (I+off+n))).take M=(L.take M).take I++(((((L.take M).drop I).take sz).take off++(X++(((L.take M).drop I).take sz).drop (off+n)))++(L.take M).drop (I+sz)):=by
 apply List.ext_getElem?
 intro q
 simp only [List.getElem?_append,List.getElem?_take,List.getElem?_drop,List.length_take,List.length_drop,List.length_append,hX]
 have e1:min (I+off) L.length=I+off:=by omega
 have e2:min I (min M L.length)=I:=by omega
 have e4:min sz (min M L.length - I)=sz:=by omega
 have e5:min off sz=off:=by omega
 simp only [e1,e2,e4,e5]
 by_cases h1:q<I
 ·have:q<I+off:=by omega
  have h2:q<M:=by omega
  simp [h1,this,h2]
 ·by_cases h2:q<I+off
  ·have a1:q<M:=by omega
   have a2:q - I<off+(n+(sz - (off+n))):=by omega
   have a3:q - I<off:=by omega
   have a4:q - I<sz:=by omega
   have a5:I+(q - I)=q:=by omega
   simp [h1,h2,a1,a2,a3,a4,a5]
  ·by_cases h3:q<I+off+n
   ·have a1:q<M:=by omega
    have a2:q - I<off+(n+(sz - (off+n))):=by omega
    have a3:¬ q - I<off:=by omega
    have a5:q - I - off<n:=by omega
    have a6:q - (I+off)=q - I - off:=by omega
    simp [h1,h2,a1,a2,a3,a5,a6]
   ·by_cases h4:q<I+sz
    ·have a1:q<M:=by omega
     have a2:q - I<off+(n+(sz - (off+n))):=by omega
     have a3:¬ q - I<off:=by omega
     have a4:¬ q - (I+off)<n:=by omega
     have a5:¬ q - I - off<n:=by omega
     have a6:off+n+(q - I - off - n)<sz:=by omega
     have a7:I+(off+n+(q - I - off - n))=q:=by omega
     have a8:I+off+n+(q - (I+off) - n)=q:=by omega
     simp [h1,h2,a1,a2,a3,a4,a5,a6,a7,a8]
    ·have a2:¬ q - I<off+(n+(sz - (off+n))):=by omega
     have a3:¬ q - (I+off)<n:=by omega
     have a4:I+off+n+(q - (I+off) - n)=q:=by omega
     have a5:I+sz+(q - I - (off+(n+(sz - (off+n)))))=q:=by omega
     simp [h1,h2,a2,a3,a4,a5]
section
variable {P:Program} {st:St} {d:Option Nat} {g:Option (Nat × Bool)}
theorem storeAt_run {w:World} {t:TypeId} {gg:Bool} {n b o:Nat} {v:Value} {cur:Array Value} {e:TypeId} (hs:szOf P t=some (gg,n)) (hv:v.cells.size=n) (h1:Ones v.cells.toList) (hb:w.heap[b]? = some (.cells cur e (0,0))) (hle:o+n≤cur.size) :
 (Instr.storeAt t (.pointer (some ⟨b,o,none⟩)) v).run P w=.ok () (w.setRow b (cur.toList.take o++v.cells.toList++cur.toList.drop (o+n)).toArray):=by
 obtain ⟨dd,i,k1,k2,k3,_⟩:=szOf_spec hs
 have hsz:(sizeOf t).run P w=.ok n w:=by simp [sizeOf,typeInfo,k2,k3]
 have hst:=run_storeCells_at P b o e v.cells.toList 0 cur w hb (by simp; omega) h1
 have hlen:v.cells.toList.length=n:=by simpa using hv
 rw [Nat.add_zero,hlen] at hst
 have hn:¬ v.cells.size≠n:=by omega
 simp only [Instr.storeAt,Instr.sureAddr,Sem.run_bind,Sem.run_pure,Result.andThen_ok,storeVar,hsz,if_neg hn]
 exact hst
theorem q_storeB {n id off:Nat} {p x:Operand} {ob:OB} {av:AV} {e cs:List AV} (hg:gOK st g) (hp:ev st p=.optr id 0 off) (ho:hl st.h id=some ob) (hrow:ob.row=false) (hro:ob.ro=false) (he:ob.es=[e]) (hx:ev st x=av) (hc:cellsA av=some cs) (hn:cs.length=n) (hle:Nat.ble (off+n) e.length=true) :
 Step P st ⟨⟨d,g,.store n p x⟩,.any,[],[(id,some { ob with es:=[e.take off++(cs++e.drop (off+n))] })],0⟩:=by
 intro N ops o hlow C E a w sx hN R hag hh hnw K Q hK
 rw [if_pos (wanted_of hlow R hag hg)]
 obtain ⟨h1,h2,h3,h4⟩:=lower_parts hlow
 have hpv:=eval_of R hag (x:=p) (by simp [AOp.opds])
 have hxv:=eval_of R hag (x:=x) (by simp [AOp.opds])
 rw [hp] at hpv; rw [hx] at hxv
 obtain ⟨hl1,b,hbp,hpv⟩:=hpv
 have hb:=ptr_blk hbp
 have ho':hl sx.h id=some ob:=by rw [hh id (.inr (by simp))]; exact ho
 obtain ⟨k1,k2⟩:=R.heap.ob id ob hl1 ho'
 have k2':=k2
 rw [hrow] at k2
 have hzp:=obBox.pos k2 hbp
 obtain ⟨g',vs,cs0,j1,j2,j3,j4,j5,j6⟩:=obBox.box k2 hbp
 rw [he] at j3
 obtain rfl:e=cs0:=by simpa using j3
 have hbg:blkOf (E.val id)=some g':=by rw [j1]; rfl
 rw [hb] at hbg
 obtain rfl:=Option.some.inj hbg
 obtain ⟨c1,c2⟩:=cellsA_rd hc hxv
 have hvs:=cells_size hc hxv
 have hlen:=j5.length
 have hle':=Nat.le_of_ble_eq_true hle
 rw [Nat.zero_mul,Nat.zero_add] at hpv
 obtain ⟨dst,op,ty,pos,after,guard⟩:=o
 obtain ⟨t,gg,rfl,hs⟩:=low_spec h3
 have hrun:=storeAt_run (P:=P) (w:=w) (v:=a.eval x) (o:=off) hs (by omega) c2 j2 (by simp; omega)
 unfold Oper.wp
 have hex:(execOp a.eval ⟨dst,.store t p x,ty,pos,after,guard⟩).run P w=.ok .skip (w.setRow b (vs.toArray.toList.take off++(a.eval x).cells.toList++vs.toArray.toList.drop (off+n)).toArray):=by
  simp only [execOp,hpv,Sem.run_bind,hrun,Result.andThen_ok,Sem.run_pure]
 rw [hex,Oper.upon_skip]
 refine hK undef _ E ?_ (fun id h=>.inl h)
 have hgr:w.grownBy (w.setRow b (vs.toArray.toList.take off++(a.eval x).cells.toList++vs.toArray.toList.drop (off+n)).toArray) (some b):=setRow_grown
 have hnim:¬ E.im b:=fun h=>by have:=(R.heap.im id ob b hl1 ho' hb).1 h; rw [hro] at this; cases this
 have hw:∀ k,E.im k→(w.setRow b (vs.toArray.toList.take off++(a.eval x).cells.toList++vs.toArray.toList.drop (off+n)).toArray).heap[k]? = w.heap[k]? := fun k hk=>hgr.block k (R.heap.lt k hk) (fun e=>by simp at e; subst e; exact hnim hk)
 have hob:obOK E (w.setRow b (vs.toArray.toList.take off++(a.eval x).cells.toList++vs.toArray.toList.drop (off+n)).toArray) id { ob with es:=[e.take off++(cs++e.drop (off+n))] }:=by
  refine ⟨k1,?_⟩
  simp only [hrow,cond_false]
  refine .inl ⟨hzp,b,vs.take off++((a.eval x).cells.toList++vs.drop (off+n)),_,j1,?_,rfl,?_,?_,?_⟩
  ·have:=setRow_heap w b vs.toArray (vs.toArray.toList.take off++(a.eval x).cells.toList++vs.toArray.toList.drop (off+n)).toArray ob.e (0,0) j2
   rw [this]; simp [List.append_assoc]
  ·simp; omega
  ·exact RdL.mono (fun k h=>⟨h,rfl,rfl⟩) (fun k h=>h) hw _ _ ((j5.take off).append (c1.append (j5.drop (off+n))))
  ·intro u hu
   simp only [List.mem_append] at hu
   rcases hu with hu|hu|hu
   ·exact j6 u (List.mem_of_mem_take hu)
   ·exact c2 u hu
   ·exact j6 u (List.mem_of_mem_drop hu)
 have:=(R.upd hl1 ho' hro hb hgr hob hro).put (d:=dst) (fun k hk=>by rw [hN]; exact h2 k hk) (v:=.any) (u:=undef) trivial
 simp only [St.appx]
 rw [show d=dst from h1]
 exact this
theorem q_storeR {n id i off:Nat} {p x:Operand} {ob:OB} {av av':AV} {e cs cs':List AV} (rd:List Nat) (hg:gOK st g) (hp:ev st p=.optr id i off) (ho:hl st.h id=some ob) (hrow:ob.row=true) (hro:ob.ro=false) (he:ob.es[i]? = some e) (hx:ev st x=av) (hv:viewN true (restr rd st.h) 4 av=some av')
 (hc:cellsA av'=some cs) (hpu:mapL (fun _=>none) cs=some cs') (hn:cs.length=n) (hle:Nat.ble (off+n) e.length=true) :
 Step P st ⟨⟨d,g,.store n p x⟩,.any,rd,[(id,some { ob with es:=ob.es.set i (e.take off++(cs'++e.drop (off+n))) })],0⟩:=by
 intro N ops o hlow C E a w sx hN R hag hh hnw K Q hK
 rw [if_pos (wanted_of hlow R hag hg)]
 obtain ⟨h1,h2,h3,h4⟩:=lower_parts hlow
 have hpv:=eval_of R hag (x:=p) (by simp [AOp.opds])
 have hxv:=eval_of R hag (x:=x) (by simp [AOp.opds])
 rw [hp] at hpv; rw [hx] at hxv
 obtain ⟨hl1,b,hbp,hpv⟩:=hpv
 have hb:=ptr_blk hbp
 have ho':hl sx.h id=some ob:=by rw [hh id (.inr (by simp))]; exact ho
 have H0:HeapOK E w (restr rd st.h):=R.heap.restr (fun id hid=>hh id (.inl hid))
 have hxi:=view_rd H0 4 _ _ _ hxv hv
 have hxi':RdI E.im w av' (a.eval x):=RdI.mono (by
  rintro k (hk|⟨id',ob',q1,q2,q3,q4⟩)
  ·exact hk
  ·exact (H0.im id' ob' k q1 q2 q3).2 (q4 rfl)) (fun b h=>rfl) _ _ hxi
 obtain ⟨k1,k2⟩:=R.heap.ob id ob hl1 ho'
 rw [hrow] at k2
 obtain ⟨vs,a0,cap,j1,j2,j3,j4,j5⟩:=k2
 obtain ⟨c1,c2⟩:=cellsA_rd hc (RdI.rd (E:=E) _ _ hxi')
 have c3:=pure_rdL hpu c1
 have hvs:=cells_size hc (RdI.rd (E:=E) _ _ hxi')
 have hle':=Nat.le_of_ble_eq_true hle
 obtain ⟨r1,r2⟩:=j3.get he
 have hel:e.length=ob.sz:=by have:=(RdIL.rd (E:=E) _ _ r1).length; omega
 have hi:i<ob.es.length:=(List.getElem?_eq_some_iff.1 he).1
 have hvl:=j3.length
 rcases j2.2 with ⟨_,h0⟩|⟨g',c,cur,hvv,_,hcur,hnc,hcm,hcs,htake⟩
 ·omega
 have hbg:blkOf (E.val id)=some g':=by rw [hvv]; rfl
 rw [hb] at hbg
 obtain rfl:=Option.some.inj hbg
 have hmul:i * ob.sz+ob.sz≤ob.es.length * ob.sz:=by
  have:=Nat.mul_le_mul_right ob.sz (show i+1≤ob.es.length from hi)
  rw [Nat.add_mul,Nat.one_mul] at this; exact this
 have hcm':ob.es.length * ob.sz≤c * ob.sz:=Nat.mul_le_mul_right _ hnc
 obtain ⟨dst,op,ty,pos,after,guard⟩:=o
 obtain ⟨t,gg,rfl,hs⟩:=low_spec h3
 rw [k1] at hpv
 have hrun:=storeAt_run (P:=P) (w:=w) (v:=a.eval x) (o:=i * ob.sz+off) hs (by omega) c2 hcur (by rw [hcs]; omega)
 unfold Oper.wp
 generalize hW:(cur.toList.take (i * ob.sz+off)++(a.eval x).cells.toList++cur.toList.drop (i * ob.sz+off+n)).toArray=W at hrun
 have hex:(execOp a.eval ⟨dst,.store t p x,ty,pos,after,guard⟩).run P w=.ok .skip (w.setRow b W):=by
  simp only [execOp,hpv,Sem.run_bind,hrun,Result.andThen_ok,Sem.run_pure]
 rw [hex,Oper.upon_skip]
 refine hK undef _ E ?_ (fun id h=>.inl h)
 have hgr:w.grownBy (w.setRow b W) (some b):=setRow_grown
 have hnim:¬ E.im b:=fun h=>by have:=(R.heap.im id ob b hl1 ho' hb).1 h; rw [hro] at this; cases this
 have hw:∀ k,E.im k→(w.setRow b W).heap[k]? = w.heap[k]? := fun k hk=>hgr.block k (R.heap.lt k hk) (fun e=>by simp at e; subst e; exact hnim hk)
 have hvt:vs=cur.toList.take (ob.es.length * ob.sz):=htake.symm
 have hxl:(a.eval x).cells.toList.length=n:=by simp; omega
 have hWl:W.toList=cur.toList.take (i * ob.sz+off)++((a.eval x).cells.toList++cur.toList.drop (i * ob.sz+off+n)):=by rw [← hW]; simp
 have hnew:W.toList.take (ob.es.length * ob.sz)=vs.take (i * ob.sz)++((((vs.drop (i * ob.sz)).take ob.sz).take off++((a.eval x).cells.toList++((vs.drop (i * ob.sz)).take ob.sz).drop (off+n)))++vs.drop (i * ob.sz+ob.sz)):=by
  rw [hWl,hvt]
  exact splice_take _ _ _ _ _ _ _ hmul (by simp; omega) hxl (by omega)
 have hob:obOK E (w.setRow b W) id { ob with es:=ob.es.set i (e.take off++(cs'++e.drop (off+n))) }:=by
  refine ⟨k1,?_⟩
  simp only [hrow,cond_true]
  have hE:=RdIE.set (i:=i) j3 hi ((r1.take off).append (c3.append (r1.drop (off+n)))) (by simp [r2]; omega)
  refine ⟨_,a0,cap,by simpa using j1,⟨?_,.inr ⟨b,c,W,?_,Nat.zero_le _,setRow_heap w b cur W ob.e (0,0) hcur,by simpa using hnc,hcm,?_,?_⟩⟩,RdIE.mono (fun k h=>h) hw _ _ _ hE,?_,by simpa using j5⟩
  ·have:=hE.length; simpa using this
  ·simpa using hvv
  ·rw [← hcs]; have:=congrArg List.length hWl; simp at this ⊢; omega
  ·simp only [List.length_set]; exact hnew
  ·intro u hu
   simp only [List.mem_append] at hu
   rcases hu with hu|(hu|hu|hu)|hu
   ·exact j4 u (List.mem_of_mem_take hu)
   ·exact j4 u (List.mem_of_mem_drop (List.mem_of_mem_take (List.mem_of_mem_take hu)))
   ·exact c2 u hu
   ·exact j4 u (List.mem_of_mem_drop (List.mem_of_mem_take (List.mem_of_mem_drop hu)))
   ·exact j4 u (List.mem_of_mem_drop hu)
 have:=(R.upd hl1 ho' hro hb hgr hob hro).put (d:=dst) (fun k hk=>by rw [hN]; exact h2 k hk) (v:=.any) (u:=undef) trivial
 simp only [St.appx]
 rw [show d=dst from h1]
 exact this
end
theorem elemsOf_spec' {P:Program} {t e:TypeId} (h:elemsOf P t=some e):P.underlying t=some (.slice e):=by
 unfold elemsOf at h
 split at h
 ·rename_i e' hu; simp only [Option.some.injEq] at h; rw [hu,h]
 ·cases h
theorem RdIE.drop' {im:Nat→Prop} {w:World} {sz:Nat}:∀ (n:Nat) {es:List (List AV)} {vs:List Value},RdIE im w sz es vs→RdIE im w sz (es.drop n) (vs.drop (n * sz))
 | 0,es,vs,h=>by simpa using h
 | n+1,[],vs,h=>by simp only [RdIE] at h; subst h; simp [RdIE]
 | n+1,e::es,vs,h=>by
   simp only [RdIE] at h
   obtain ⟨x,rest,rfl,h1,h2,h3⟩:=h
   have:(x++rest).drop ((n+1) * sz)=rest.drop (n * sz):=by
    rw [Nat.add_mul,Nat.one_mul,Nat.add_comm,← List.drop_drop]
    congr 1
    rw [← h1]; simp
   rw [this]; exact RdIE.drop' n h3
theorem append_run {P:Program} {w:World} {t ty e:TypeId} {i:TypeInfo} {z:Value} {sz by_:Nat} (ht:P.underlying t=some (.slice e)) (hi:P.info? e=some i) (hz:i.zero=some z) (hsize:i.size=sz) (hby:i.bytes=by_) (hzs:z.cells.size=sz) (hsz:0<sz)
 {av:Option Addr} {n cap:Nat} {xs:List Value} (hown:w.ownsRow 0 e sz (.slice av n cap) n xs) {ao:Option Addr} {m c:Nat} {news:List Value} (hmc:m≤c) (hnil:ao=none→c=0) (hl:news.length=m * sz)
 (hnews:∀ j u,news[j]? = some u→∃ b off,ao=some ⟨b,off,none⟩∧w.cell? ⟨b,off+j,none⟩=some u) (h1:Ones news) (h63:n+m≤maxLen) (hbytes:(n+m) * by_≤140737488355328) :
 ∃ av' cap' w',(Builtin.append_ #[t,t] ty #[.slice av n cap,.slice ao m c]).run P w=.ok (.slice av' (n+m) cap') w'∧w'.ownsRow 0 e sz (.slice av' (n+m) cap') (n+m) (xs++news)∧w.grownBy w' (blkOf (.slice av n cap)) ∧
   (∀ x,av'=some x→w.heap.size≤x.block∨av=some x):=by
 have cells:∀ ad,ao=some ad→∀ j u,news[j]? = some u→w.cell? (ad.add j)=some u:=fun ad had j u hu=>by
  obtain ⟨b,off,hab,hc⟩:=hnews j u hu
  rw [had] at hab
  simp only [Option.some.injEq] at hab
  subst hab
  rw [addr_add]; exact hc
 have hcapn:n≤cap:=by
  rcases hown.2 with ⟨h1,h2⟩|⟨g,c',cur,h1,_,_,h3,_⟩
  ·omega
  ·simp only [Value.slice.injEq] at h1; omega
 have base:∀ {w':World} {v:Value} {k:Nat} {ys:List Value} {B:Nat},w'.ownsRow B e sz v k ys→w'.ownsRow 0 e sz v k ys:=fun {w' v k ys B} h=>by
  refine ⟨h.1,?_⟩
  rcases h.2 with hn|⟨g,c',cur,r1,r2,rest⟩
  ·exact .inl hn
  ·exact .inr ⟨g,c',cur,r1,Nat.zero_le _,rest⟩
 have gany:∀ {w':World} {row:Option Nat},w.grownBy w' none→w.grownBy w' row:=fun h=>⟨h.os,h.tape,h.output,h.size,fun k hk _=>h.block k hk (by simp)⟩
 cases ao with
 | none =>
   have hc0:=hnil rfl
   have hm:m=0:=by omega
   subst hc0; subst hm
   have hn0:news=[]:=List.eq_nil_of_length_eq_zero (by simpa using hl)
   subst hn0
   refine ⟨av,cap,w,?_,by simpa using hown,⟨rfl,rfl,rfl,Nat.le_refl _,fun _ _ _=>rfl⟩,fun x hx=>.inr hx⟩
   have hle:n+0≤cap:=by omega
   cases av with
   | none=>simp [Builtin.append_,run_underlying ht,sizeOf,typeInfo,hi,Builtin.lenOf,hcapn,Builtin.firstCells]
   | some x=>simp [Builtin.append_,run_underlying ht,sizeOf,typeInfo,hi,Builtin.lenOf,hcapn,Builtin.firstCells,storeCells]
 | some ad =>
   by_cases hfull:cap<n+m
   ·cases av with
    | some b =>
      have hb:∀ j u,xs[j]? = some u→w.cell? (b.add j)=some u:=fun j u hu=>by
       rcases hown.2 with ⟨h1,h2⟩|⟨g,c',cur,h1,_⟩
       ·simp at h1
       ·simp only [Value.slice.injEq,Option.some.injEq] at h1
        have:=hown.cells (g:=g) (by rw [h1.1]; rfl) j u hu
        rw [h1.1]; exact this
      obtain ⟨v',w',r1,r2,r3⟩:=run_append_arg_grows (P:=P) w t ty e i z sz by_ ht hi hz hsize hby hzs hsz b n cap xs hown.1 hb ad m c news hl (cells ad rfl) hfull h63 hbytes
      obtain ⟨av',cap',rfl⟩:∃ av' cap',v'=.slice av' (n+m) cap':=by
       rcases r2.2 with ⟨q1,q2⟩|⟨g,c',cur,q1,_⟩
       ·exact ⟨none,0,by rw [q1,q2]⟩
       ·exact ⟨_,_,q1⟩
      refine ⟨av',cap',w',r1,base r2,gany r3,fun x hx=>.inl ?_⟩
      exact (r2.lt x.block (by rw [hx]; rfl)).1
    | none =>
      have h0:n=0∧cap=0:=by
       rcases hown.2 with ⟨q1,q2⟩|⟨g,c',cur,q1,_⟩
       ·simp only [Value.slice.injEq] at q1; exact ⟨q2,q1.2.2⟩
       ·simp at q1
      obtain ⟨rfl,rfl⟩:=h0
      have hx0:xs=[]:=List.eq_nil_of_length_eq_zero (by rw [hown.1,Nat.zero_mul])
      subst hx0
      obtain ⟨v',w',r1,r2,r3,_⟩:=run_append_own (P:=P) w w.heap.size t ty e i z sz by_ ht hi hz hsize hby hzs hsz (.slice none 0 0) 0 [] (World.ownsRow_nil w _ e sz) ad m c news hl (cells ad rfl) h1 h63 hbytes (Nat.le_refl _)
      obtain ⟨av',cap',rfl⟩:∃ av' cap',v'=.slice av' (0+m) cap':=by
       rcases r2.2 with ⟨q1,q2⟩|⟨g,c',cur,q1,_⟩
       ·exact ⟨none,0,by rw [q1,q2]⟩
       ·exact ⟨_,_,q1⟩
      refine ⟨av',cap',w',r1,base r2,r3,fun x hx=>.inl ?_⟩
      exact (r2.lt x.block (by rw [hx]; rfl)).1
   ·cases av with
    | none =>
      have h0:n=0∧cap=0:=by
       rcases hown.2 with ⟨q1,q2⟩|⟨g,c',cur,q1,_⟩
       ·simp only [Value.slice.injEq] at q1; exact ⟨q2,q1.2.2⟩
       ·simp at q1
      obtain ⟨rfl,rfl⟩:=h0
      have hm:m=0:=by omega
      subst hm
      have hn0:news=[]:=List.eq_nil_of_length_eq_zero (by simpa using hl)
      subst hn0
      obtain ⟨v',w',r1,r2,r3,r4⟩:=run_append_own (P:=P) w 0 t ty e i z sz by_ ht hi hz hsize hby hzs hsz (.slice none 0 0) 0 xs hown ad 0 c [] hl (cells ad rfl) h1 h63 hbytes (Nat.zero_le _)
      have hv:v'=.slice none 0 0:=r4.2 ⟨rfl,rfl⟩
      subst hv
      exact ⟨none,0,w',r1,r2,r3,fun x hx=>by cases hx⟩
    | some b =>
      rcases hown.2 with ⟨q1,_⟩|⟨gg,c',cur,q1,_,q3,q4,q5,q6,q7⟩
      ·simp at q1
      ·simp only [Value.slice.injEq,Option.some.injEq] at q1
       obtain ⟨rfl,_,rfl⟩:=q1
       have hfit:n * i.size+news.length≤cur.size:=by
        rw [hsize,hl,q6,← Nat.add_mul]; exact Nat.mul_le_mul_right _ (by omega)
       have r1:=run_append_room (P:=P) w t ty e i ht hi gg n cap cur q3 ad m c news (by rw [hsize]; exact hl) (cells ad rfl) h1 (by omega) hfit
       rw [hsize] at r1
       refine ⟨some ⟨gg,0,none⟩,cap,_,r1,⟨?_,.inr ⟨gg,cap,_,rfl,Nat.zero_le _,setRow_heap w gg cur _ e (0,0) q3,by omega,q5,?_,?_⟩⟩,?_,fun x hx=>.inr hx⟩
       ·rw [List.length_append,hown.1,hl,Nat.add_mul]
       ·have:n * sz+news.length≤cur.size:=by rw [← hsize]; exact hfit
        simp; omega
       ·have hx:xs=cur.toList.take (n * sz):=q7.symm
        have hxl:=hown.1
        rw [List.append_assoc,← hx,← List.append_assoc,show (n+m) * sz=(xs++news).length from by rw [List.length_append,hxl,hl,Nat.add_mul],List.take_left]
       ·exact setRow_grown
section
variable {P:Program} {st:St} {d:Option Nat} {g:Option (Nat × Bool)}
def isNil:Value→Bool
 | .slice none 0 0=>true
 | _=>false
theorem isNil_spec {v:Value} (h:isNil v=true):v=.slice none 0 0:=by
 unfold isNil at h
 split at h
 ·rfl
 ·cases h
def srcA (h:Hp) (sz:Nat):AV→Option (List (List AV))
 | .sl sz' es=>bif Nat.beq sz' sz then some es else none
 | .own k=>match hl h k with|some o=>bif o.row && Nat.beq o.sz sz then some o.es else none|none=>none
 | .lit v=>bif isNil v then some [] else none
 | _=>none
theorem srcA_rd {E:Env} {w:World} {h:Hp} {sz:Nat} {av:AV} {es:List (List AV)} {v:Value} (H:HeapOK E w h) (hs:srcA h sz av=some es) (hr:Rd E w av v) :
 ∃ a c vs,v=.slice a es.length c∧es.length≤c∧(a=none→c=0)∧RdIE E.im w sz es vs∧Ones vs∧es.length≤maxN∧∀ j u,vs[j]? = some u→∃ b off,a=some ⟨b,off,none⟩∧w.cell? ⟨b,off+j,none⟩=some u:=by
 match av,hs,hr with
 | .lit u,hs,hr =>
   simp only [srcA] at hs
   cases hu:isNil u with
   | false=>simp [hu] at hs
   | true =>
     simp only [hu,cond_true,Option.some.injEq] at hs; subst hs
     have:=isNil_spec hu
     subst this
     exact ⟨none,0,[],hr,Nat.le_refl _,fun _=>rfl,rfl,fun u hu=>(by cases hu),Nat.zero_le _,fun j u hu=>(by simp at hu)⟩
 | .sl sz' es',hs,hr =>
   simp only [srcA] at hs
   cases hb:Nat.beq sz' sz with
   | false=>simp [hb] at hs
   | true =>
     simp only [hb,cond_true,Option.some.injEq] at hs; subst hs
     have:=Nat.eq_of_beq_eq_true hb; subst this
     obtain ⟨a,cap,vs,h1,h2,h3,h4,h5,h6,h7⟩:=hr
     exact ⟨a,cap,vs,h1,h2,h3,h7,h6,h4,fun j u hu=>by obtain ⟨b,off,e1,_,e2⟩:=h5 j u hu; exact ⟨b,off,e1,e2⟩⟩
 | .own k,hs,hr =>
   simp only [srcA] at hs
   split at hs
   ·rename_i o ho
    cases hb:(o.row && Nat.beq o.sz sz) with
    | false=>simp [hb] at hs
    | true =>
      simp only [hb,cond_true,Option.some.injEq] at hs; subst hs
      simp only [Bool.and_eq_true] at hb
      have:=Nat.eq_of_beq_eq_true hb.2; subst this
      obtain ⟨hl1,_,rfl⟩:=hr
      obtain ⟨k1,k2⟩:=H.ob k o hl1 ho
      rw [hb.1] at k2
      obtain ⟨vs,a,cap,j1,j2,j3,j4,j5⟩:=k2
      refine ⟨a,cap,vs,j1,?_,?_,j3,j4,j5,fun j u hu => ?_⟩
      ·rcases j2.2 with ⟨hn,h0⟩|⟨g,c,cur,hv,_,_,hc',_⟩
       ·omega
       ·rw [j1] at hv; simp only [Value.slice.injEq] at hv; omega
      ·intro ha
       rcases j2.2 with ⟨hn,h0⟩|⟨g,c,cur,hv,_⟩
       ·rw [j1] at hn; simp only [Value.slice.injEq] at hn; exact hn.2.2
       ·rw [j1,ha] at hv; simp at hv
      ·rcases j2.2 with ⟨hn,h0⟩|⟨g,c,cur,hv,_⟩
       ·have:vs.length=0:=by rw [j2.1,h0,Nat.zero_mul]
        have:=(List.getElem?_eq_some_iff.1 hu).1
        omega
       ·rw [j1] at hv
        simp only [Value.slice.injEq] at hv
        have:=j2.cells (g:=g) (by rw [j1,hv.1]; rfl) j u hu
        rw [addr_add] at this
        exact ⟨g,0,hv.1,this⟩
   ·cases hs
 | .any,hs,_=>simp [srcA] at hs
 | .agg _,hs,_=>simp [srcA] at hs
 | .tup _,hs,_=>simp [srcA] at hs
 | .ep _ _ _ _,hs,_=>simp [srcA] at hs
 | .optr _ _ _,hs,_=>simp [srcA] at hs
 | .osl _ _ _,hs,_=>simp [srcA] at hs
 | .sem _,hs,_=>simp [srcA] at hs
 | .fn _ _ _,hs,_=>simp [srcA] at hs
theorem appendOp_run {w:World} {ρ:Operand→Value} {t:TypeId} {s x:Operand} {dst:Option Tmp} {ty:TypeId} {pos:String} {after:Array Edge} {guard:Option (Nat × Bool)} {vs vx v':Value} {w':World} (hs:ρ s=vs) (hx:ρ x=vx)
 (h:(Builtin.append_ #[t,t] ty #[vs,vx]).run P w=.ok v' w') :
 (execOp ρ ⟨dst,.call { callee:=.builtin .append,args := #[s,x],argTypes := #[t,t] },ty,pos,after,guard⟩).run P w=.ok (.value v') w':=by
 simp only [execOp,resolve,Sem.run_bind,Sem.run_pure,Result.andThen_ok,invoke,builtin,List.map_toArray,List.map_cons,List.map_nil,hs,hx,h]
theorem q_append {e:TypeId} {sz by_:Nat} {z:List Value} {s x:Operand} {id:Nat} {ob:OB} {av:AV} {news:List (List AV)} (rd:List Nat) (hg:gOK st g) (hs:ev st s=.own id) (ho:hl st.h id=some ob) (hrow:ob.row=true) (hro:ob.ro=false) (hsz:ob.sz=sz) (he:ob.e=e)
 (hx:ev st x=av) (hn:srcA (restr rd st.h) sz av=some news) (hb:(ob.es.length+news.length) * by_≤140737488355328) :
 Step P st ⟨⟨d,g,.append e sz by_ z s x⟩,.own st.nx,rd,[(st.nx,some ⟨true,false,e,sz,ob.es++news⟩),(id,none)],1⟩:=by
 intro N ops o hlow C E a w sx hN R hag hh hnw K Q hK
 rw [if_pos (wanted_of hlow R hag hg)]
 obtain ⟨h1,h2,h3,h4⟩:=lower_parts hlow
 obtain ⟨hnl,hnx⟩:=hnw 0 (Nat.lt_succ_self 0)
 have hsv:=eval_of R hag (x:=s) (by simp [AOp.opds])
 have hxv:=eval_of R hag (x:=x) (by simp [AOp.opds])
 rw [hs] at hsv; rw [hx] at hxv
 obtain ⟨hl1,_,hsv⟩:=hsv
 have ho':hl sx.h id=some ob:=by rw [hh id (.inr (by simp))]; exact ho
 have H0:HeapOK E w (restr rd st.h):=R.heap.restr (fun id hid=>hh id (.inl hid))
 obtain ⟨k1,k2⟩:=R.heap.ob id ob hl1 ho'
 rw [hrow] at k2
 obtain ⟨vs,a0,cap,j1,j2,j3,j4,j5⟩:=k2
 obtain ⟨ax,cx,us,x1,x2,x3,x4,x5,x6,x7⟩:=srcA_rd H0 hn hxv
 obtain ⟨dst,op,ty,pos,after,guard⟩:=o
 obtain ⟨t,rfl,het,hzt⟩:=low_spec h3
 obtain ⟨i,zv,m1,m2,m3,m4,m5,m6,m7,m8,m9⟩:=zeroOf_spec hzt
 have hut:P.underlying t=some (.slice e):=by
  unfold elemsOf at het
  split at het
  ·rename_i e' hu; simp only [Option.some.injEq] at het; rw [hu,het]
  ·cases het
 have hlen:ob.es.length+news.length≤140737488355328:=Nat.le_trans (Nat.le_mul_of_pos_right _ m9) hb
 have hzs:zv.cells.size=sz:=by have:=congrArg List.length m3; simp at this; omega
 rw [hsz,he] at j2
 rw [j1] at j2
 obtain ⟨av',cap',w',r1,r2,r3,r4⟩:=append_run (P:=P) (ty:=ty) hut m1 m2 m4 m5 hzs m8 j2 x2 x3 (by rw [x4.length]) x7 x5 (by unfold maxLen; omega) hb
 unfold Oper.wp
 rw [appendOp_run (hsv.trans j1) x1 r1,Oper.upon_value]
 have hV:∀ b,blkOf (.slice av' (ob.es.length+news.length) cap')=some b→w.heap.size≤b∨blkOf (E.val id)=some b:=fun b hb'=>by
  cases av' with
  | none=>simp [blkOf] at hb'
  | some y =>
    simp only [blkOf,Option.some.injEq] at hb'
    rcases r4 y rfl with h|h
    ·left; omega
    ·right; rw [j1,h]; simp [blkOf,hb']
 have hob:obOK (newE E st.nx (.slice av' (ob.es.length+news.length) cap') sz) w' st.nx ⟨true,false,e,sz,ob.es++news⟩:=by
  refine ⟨by simp [newE],vs++us,av',cap',by simp [newE],by simpa [newE] using r2,?_,fun u hu => ?_,by simp [maxN]; omega⟩
  ·have hw:∀ b,E.im b→w'.heap[b]? = w.heap[b]? := fun b hb'=>r3.block b (R.heap.lt b hb') (fun e'=>by
    have:=(R.heap.im id ob b hl1 ho' (by rw [j1]; exact e'.symm)).1 hb'
    rw [hro] at this; cases this)
   rw [hsz] at j3
   exact RdIE.mono (fun b h=>h) hw _ _ _ (j3.append x4)
  ·rcases List.mem_append.1 hu with h|h
   ·exact j4 u h
   ·exact x5 u h
 have hR:=Rel.new R hnl hnx (some id) (blkOf (E.val id)) (by rw [j1]; exact r3) (fun b hb'=>⟨id,ob,rfl,hl1,ho',hb',hro⟩) (ob:=⟨true,false,e,sz,ob.es++news⟩) hob rfl hV
 refine hK _ w' (newE E st.nx (.slice av' (ob.es.length+news.length) cap') sz) ?_ (fun id' hid=>Or.elim hid Or.inl (fun h=>.inr ⟨0,Nat.lt_succ_self 0,h⟩))
 have:=hR.put (d:=dst) (fun k hk=>by rw [hN]; exact h2 k hk) (v:=.own st.nx) (u:=.slice av' (ob.es.length+news.length) cap') ⟨.inr rfl,rfl,by simp [newE]⟩
 simp only [St.appx]
 rw [show d=dst from h1]
 exact this
theorem q_appendN {e:TypeId} {sz by_:Nat} {z:List Value} {s x:Operand} {av:AV} {news:List (List AV)} (rd:List Nat) (hg:gOK st g) (hs:ev st s=.lit (.slice none 0 0))
 (hx:ev st x=av) (hn:srcA (restr rd st.h) sz av=some news) (hb:news.length * by_≤140737488355328) :
 Step P st ⟨⟨d,g,.append e sz by_ z s x⟩,.own st.nx,rd,[(st.nx,some ⟨true,false,e,sz,news⟩)],1⟩:=by
 intro N ops o hlow C E a w sx hN R hag hh hnw K Q hK
 rw [if_pos (wanted_of hlow R hag hg)]
 obtain ⟨h1,h2,h3,h4⟩:=lower_parts hlow
 obtain ⟨hnl,hnx⟩:=hnw 0 (Nat.lt_succ_self 0)
 have hsv:=lit_eval (eval_of R hag (x:=s) (by simp [AOp.opds])) hs
 have hxv:=eval_of R hag (x:=x) (by simp [AOp.opds])
 rw [hx] at hxv
 have H0:HeapOK E w (restr rd st.h):=R.heap.restr (fun id hid=>hh id (.inl hid))
 obtain ⟨ax,cx,us,x1,x2,x3,x4,x5,x6,x7⟩:=srcA_rd H0 hn hxv
 obtain ⟨dst,op,ty,pos,after,guard⟩:=o
 obtain ⟨t,rfl,het,hzt⟩:=low_spec h3
 obtain ⟨i,zv,m1,m2,m3,m4,m5,m6,m7,m8,m9⟩:=zeroOf_spec hzt
 have hut:P.underlying t=some (.slice e):=by
  unfold elemsOf at het
  split at het
  ·rename_i e' hu; simp only [Option.some.injEq] at het; rw [hu,het]
  ·cases het
 have hlen:news.length≤140737488355328:=Nat.le_trans (Nat.le_mul_of_pos_right _ m9) hb
 have hzs:zv.cells.size=sz:=by have:=congrArg List.length m3; simp at this; omega
 obtain ⟨av',cap',w',r1,r2,r3,r4⟩:=append_run (P:=P) (ty:=ty) hut m1 m2 m4 m5 hzs m8 (World.ownsRow_nil w 0 e sz) x2 x3 (by rw [x4.length]) x7 x5 (by unfold maxLen; omega) (by rw [Nat.zero_add]; exact hb)
 rw [Nat.zero_add,List.nil_append] at r2
 rw [Nat.zero_add] at r1
 unfold Oper.wp
 rw [appendOp_run hsv x1 r1,Oper.upon_value]
 have hV:∀ b,blkOf (.slice av' news.length cap')=some b→w.heap.size≤b∨(none:Option Nat)=some b:=fun b hb'=>by
  cases av' with
  | none=>simp [blkOf] at hb'
  | some y =>
    simp only [blkOf,Option.some.injEq] at hb'
    rcases r4 y rfl with h|h
    ·left; omega
    ·cases h
 have hob:obOK (newE E st.nx (.slice av' news.length cap') sz) w' st.nx ⟨true,false,e,sz,news⟩:=by
  refine ⟨by simp [newE],us,av',cap',by simp [newE],by simpa [newE] using r2,?_,x5,by simp [maxN]; omega⟩
  exact RdIE.mono (fun b h=>h) (fun b hb'=>r3.block b (R.heap.lt b hb') (by simp [blkOf])) _ _ _ x4
 have hR:=Rel.new R hnl hnx none none (by simpa [blkOf] using r3) (fun b hb'=>by cases hb') (ob:=⟨true,false,e,sz,news⟩) hob rfl hV
 refine hK _ w' (newE E st.nx (.slice av' news.length cap') sz) ?_ (fun id' hid=>Or.elim hid Or.inl (fun h=>.inr ⟨0,Nat.lt_succ_self 0,h⟩))
 have:=hR.put (d:=dst) (fun k hk=>by rw [hN]; exact h2 k hk) (v:=.own st.nx) (u:=.slice av' news.length cap') ⟨.inr rfl,rfl,by simp [newE]⟩
 simp only [St.appx]
 rw [show d=dst from h1]
 exact this
theorem first_run {w:World} {sz n:Nat} {a:Option Addr} {c:Nat} {us:List Value} (hc:n≤c) (hnil:a=none→c=0) (hl:us.length=n * sz) (h:∀ j u,us[j]? = some u→∃ b off,a=some ⟨b,off,none⟩∧w.cell? ⟨b,off+j,none⟩=some u):(Builtin.firstCells sz n (.slice a n c)).run P w=.ok us.toArray w:=by
 cases a with
 | none =>
   have:=hnil rfl
   have:n=0:=by omega
   subst this
   rw [Nat.zero_mul] at hl
   obtain rfl:=List.eq_nil_of_length_eq_zero hl
   exact run_firstCells_none _ _ _ _ _
 | some ad =>
   exact run_firstCells_some w sz n ad n c us hl fun j v hv=>by
    obtain ⟨b,off,hab,hcl⟩:=h j v hv
    simp only [Option.some.injEq] at hab
    subst hab
    rw [addr_add]; exact hcl
theorem q_copy {sz id:Nat} {x y:Operand} {ob:OB} {av:AV} {news:List (List AV)} (rd:List Nat) (hg:gOK st g) (hs:ev st x=.own id) (ho:hl st.h id=some ob) (hrow:ob.row=true) (hro:ob.ro=false) (hsz:ob.sz=sz)
 (hx:ev st y=av) (hn:srcA (restr rd st.h) sz av=some news) (hle:news.length≤ob.es.length) :
 Step P st ⟨⟨d,g,.copy sz x y⟩,.lit (.int .i64 news.length),rd,[(id,some { ob with es:=news++ob.es.drop news.length })],0⟩:=by
 intro N ops o hlow C E a w sx hN R hag hh hnw K Q hK
 rw [if_pos (wanted_of hlow R hag hg)]
 obtain ⟨h1,h2,h3,h4⟩:=lower_parts hlow
 have hsv:=eval_of R hag (x:=x) (by simp [AOp.opds])
 have hxv:=eval_of R hag (x:=y) (by simp [AOp.opds])
 rw [hs] at hsv; rw [hx] at hxv
 obtain ⟨hl1,_,hsv⟩:=hsv
 have ho':hl sx.h id=some ob:=by rw [hh id (.inr (by simp))]; exact ho
 have H0:HeapOK E w (restr rd st.h):=R.heap.restr (fun id hid=>hh id (.inl hid))
 obtain ⟨k1,k2⟩:=R.heap.ob id ob hl1 ho'
 rw [hrow] at k2
 obtain ⟨vs,a0,cap,j1,j2,j3,j4,j5⟩:=k2
 obtain ⟨ax,cx,us,x1,x2,x3,x4,x5,x6,x7⟩:=srcA_rd H0 hn hxv
 have hul:=x4.length
 obtain ⟨dst,op,ty,pos,after,guard⟩:=o
 obtain ⟨t,t',e,gg,rfl,het,hsz'⟩:=low_spec h3
 obtain ⟨dd,i,q1,q2,q3,_⟩:=szOf_spec hsz'
 have hsize:(sizeOf e).run P w=.ok sz w:=by simp [sizeOf,typeInfo,q2,q3]
 have hut:P.underlying t=some (.slice e):=elemsOf_spec' het
 have hfc:=first_run (P:=P) (w:=w) (sz:=sz) x2 x3 hul x7
 have hmin:Nat.min news.length ob.es.length=news.length:=Nat.min_eq_left hle
 have hrun:∀ w',(match a0 with|some ad=>(storeCells ad us).run P w|none=>.ok () w)=.ok () w'→(execOp a.eval ⟨dst,.call { callee:=.builtin .copy,args := #[x,y],argTypes := #[t,t'] },ty,pos,after,guard⟩).run P w=.ok (.value (.int .i64 news.length)) w':=by
  intro w' hw'
  simp only [execOp,resolve,Sem.run_bind,Sem.run_pure,Result.andThen_ok,invoke,builtin,List.map_toArray,List.map_cons,List.map_nil,hsv,j1,x1]
  cases a0 with
  | none =>
    simp only [Result.ok.injEq,true_and] at hw'
    subst hw'
    simp [Builtin.copy_,run_underlying hut,Builtin.lenOf,hsize,hmin,hfc,goInt]
  | some ad =>
    simp only at hw'
    simp [Builtin.copy_,run_underlying hut,Builtin.lenOf,hsize,hmin,hfc,hw',goInt]
 unfold Oper.wp
 rcases j2.2 with ⟨hv0,h0⟩|⟨g',c,cur,hvv,_,hcur,hnc,hcm,hcs,htake⟩
 ·rw [j1] at hv0
  simp only [Value.slice.injEq] at hv0
  obtain ⟨rfl,_,_⟩:=hv0
  rw [hrun w rfl,Oper.upon_value]
  have hn0:news=[]:=List.eq_nil_of_length_eq_zero (by omega)
  subst hn0
  refine hK _ w E ?_ (fun id h=>.inl h)
  have hR:Rel C E ⟨sx.t,(id,some { ob with es:=[]++ob.es.drop ([]:List (List AV)).length })::sx.h,sx.nx⟩ a w:=R.congr (fun _=>rfl) (fun k=>by
   by_cases hk:k=id
   ·subst hk; rw [ho']; simp [hl,look]
   ·have:Nat.beq id k=false:=by cases hb:Nat.beq id k; rfl; exact absurd (Nat.eq_of_beq_eq_true hb).symm hk
    simp [hl,look,this]) (Nat.le_refl _)
  have:=hR.put (d:=dst) (fun k hk=>by rw [hN]; exact h2 k hk) (v:=.lit (.int .i64 (([]:List (List AV)).length:Nat))) (u:=.int .i64 (([]:List (List AV)).length:Nat)) rfl
  simp only [St.appx]
  rw [show d=dst from h1]
  exact this
 ·rw [j1] at hvv
  simp only [Value.slice.injEq] at hvv
  obtain ⟨rfl,_,rfl⟩:=hvv
  have hb:blkOf (E.val id)=some g':=by rw [j1]; rfl
  have hmul:news.length * ob.sz≤ob.es.length * ob.sz:=Nat.mul_le_mul_right _ hle
  have hcm':ob.es.length * ob.sz≤cap * ob.sz:=Nat.mul_le_mul_right _ hnc
  have hst:=run_storeCells_at P g' 0 ob.e us 0 cur w hcur (by rw [hul,hcs,hsz] at *; omega) x5
  simp only [Nat.add_zero,Nat.zero_add,List.take_zero,List.nil_append] at hst
  generalize hW:(us++cur.toList.drop us.length).toArray=W at hst
  rw [hrun _ hst,Oper.upon_value]
  refine hK _ _ E ?_ (fun id h=>.inl h)
  have hgr:w.grownBy (w.setRow g' W) (some g'):=setRow_grown
  have hnim:¬ E.im g':=fun h=>by have:=(R.heap.im id ob g' hl1 ho' hb).1 h; rw [hro] at this; cases this
  have hw:∀ k,E.im k→(w.setRow g' W).heap[k]? = w.heap[k]? := fun k hk=>hgr.block k (R.heap.lt k hk) (fun e=>by simp at e; subst e; exact hnim hk)
  have hWl:W.toList=us++cur.toList.drop us.length:=by rw [← hW]
  have hvt:vs=cur.toList.take (ob.es.length * ob.sz):=htake.symm
  have hul':us.length=news.length * ob.sz:=by rw [hul,hsz]
  have hlen':(news++ob.es.drop news.length).length=ob.es.length:=by simp; omega
  have hob:obOK E (w.setRow g' W) id { ob with es:=news++ob.es.drop news.length }:=by
   refine ⟨k1,?_⟩
   simp only [hrow,cond_true]
   have hE:RdIE E.im w ob.sz (news++ob.es.drop news.length) (us++vs.drop (news.length * ob.sz)):=by
    have h4:RdIE E.im w ob.sz news us:=by rw [hsz]; exact x4
    exact h4.append (RdIE.drop' news.length j3)
   refine ⟨us++vs.drop (news.length * ob.sz),some ⟨g',0,none⟩,cap,by simp only [hlen']; exact j1,⟨?_,.inr ⟨g',cap,W,?_,Nat.zero_le _,setRow_heap w g' cur W ob.e (0,0) hcur,by simp only [hlen']; exact hnc,hcm,?_,?_⟩⟩,RdIE.mono (fun k h=>h) hw _ _ _ hE,?_,by simp only [hlen']; exact j5⟩
   ·have:=hE.length; simpa using this
   ·simp only [hlen']; exact j1
   ·rw [← hcs]; have:=congrArg List.length hWl; simp at this ⊢; omega
   ·simp only [hlen']
    rw [hWl,hvt,← hul']
    have e1:(us++cur.toList.drop us.length).take (ob.es.length * ob.sz)=us++(cur.toList.drop us.length).take (ob.es.length * ob.sz - us.length):=by
     rw [List.take_append,List.take_of_length_le (by omega)]
    rw [e1,List.drop_take]
   ·intro u hu
    rcases List.mem_append.1 hu with hu|hu
    ·exact x5 u hu
    ·exact j4 u (List.mem_of_mem_drop hu)
  have:=(R.upd hl1 ho' hro hb hgr hob hro).put (d:=dst) (fun k hk=>by rw [hN]; exact h2 k hk) (v:=.lit (.int .i64 news.length)) (u:=.int .i64 news.length) rfl
  simp only [St.appx]
  rw [show d=dst from h1]
  exact this
end
theorem elemsOf_spec {P:Program} {t e:TypeId} (h:elemsOf P t=some e):P.underlying t=some (.slice e):=by
 unfold elemsOf at h
 split at h
 ·rename_i e' hu; simp only [Option.some.injEq] at h; rw [hu,h]
 ·cases h
theorem lits_rdIE {im:Nat→Prop} {w:World}:∀ (l:List Value),RdIL im w (l.map .lit) l
 | []=>rfl
 | v::l=>⟨v,l,rfl,rfl,lits_rdIE l⟩
theorem made_rd {im:Nat→Prop} {w:World} {z:Array Value} (hz:0<z.size):∀ (n k:Nat),RdIE im w z.size (List.replicate n (z.toList.map .lit)) ((List.range' (k * z.size) (n * z.size)).map (z[· % z.size]!))
 | 0,k=>by simp [RdIE]
 | n+1,k=>by
   simp only [List.replicate_succ,RdIE]
   refine ⟨z.toList,(List.range' ((k+1) * z.size) (n * z.size)).map (z[· % z.size]!),?_,by simp,lits_rdIE _,made_rd hz n (k+1)⟩
   rw [Nat.add_mul n 1,Nat.one_mul,Nat.add_comm (n * z.size),← List.range'_append_1,List.map_append,Nat.add_mul k 1,Nat.one_mul]
   congr 1
   apply List.ext_getElem
   ·simp
   ·intro i h1 h2
    simp only [List.length_map,List.length_range'] at h1
    simp only [List.getElem_map,List.getElem_range',Nat.one_mul]
    have:(k * z.size+i) % z.size=i:=by
     rw [Nat.mul_comm,Nat.mul_add_mod]; exact Nat.mod_eq_of_lt h1
    rw [this]
    simp [h1]
theorem range_made {im:Nat→Prop} {w:World} {z:Array Value} (hz:0<z.size) (n:Nat):RdIE im w z.size (List.replicate n (z.toList.map .lit)) ((List.range (n * z.size)).map (z[· % z.size]!)):=by
 have:=made_rd (im:=im) (w:=w) hz n 0
 rw [Nat.zero_mul] at this
 rw [List.range_eq_range']; exact this
theorem made_ones {z:Array Value} (h1:Ones z.toList) (hz:0<z.size) (n:Nat):Ones ((List.range n).map (z[· % z.size]!)):=fun u hu=>by
 obtain ⟨i,_,rfl⟩:=List.mem_map.1 hu
 have hlt:i % z.size<z.size:=Nat.mod_lt _ hz
 refine h1 _ ?_
 simp only [hlt,getElem!_pos]
 exact Array.mem_toList_iff.2 (Array.getElem_mem hlt)
section
variable {P:Program} {st:St} {d:Option Nat} {g:Option (Nat × Bool)}
theorem q_make {e:TypeId} {sz by_:Nat} {z:List Value} {l c:Operand} {kl kc:IntKind} {L M:Int} (hg:gOK st g) (hl':ev st l=.lit (.int kl L)) (hc:ev st c=.lit (.int kc M)) (h0:0≤L) (h1:L≤M) (hb:(by_:Int) * M≤281474976710656) :
 Step P st ⟨⟨d,g,.make e sz by_ z l c⟩,.own st.nx,[],[(st.nx,some ⟨true,false,e,sz,List.replicate L.toNat (z.map .lit)⟩)],1⟩ :=
  step_new (ob:=⟨true,false,e,sz,List.replicate L.toNat (z.map .lit)⟩) [] hg (fun o C E ac w sx hlow R hr hh hnl=>by
 have hlv:=lit_eval (hr l (by simp [AOp.opds])) hl'
 have hcv:=lit_eval (hr c (by simp [AOp.opds])) hc
 obtain ⟨dst,o,ty,pos,after,guard⟩:=o
 obtain ⟨t,rfl,het,hzt⟩:=low_spec hlow
 obtain ⟨i,zv,m1,m2,m3,m4,m5,m6,m7,m8,m9⟩:=zeroOf_spec hzt
 have hzs:zv.cells.size=sz:=by have:=congrArg List.length m3; simp at this; omega
 have hM:M≤281474976710656:=by
  have:(1:Int) * M≤by_ * M:=Int.mul_le_mul_of_nonneg_right (by omega) (by omega)
  omega
 have hrun:=run_make (P:=P) w t e i zv (elemsOf_spec het) m1 m2 kl kc L M h0 h1 (by rw [m5]; exact hb) (by omega)
 rw [m4] at hrun
 have hLM:L.toNat≤M.toNat:=by omega
 have hmul:L.toNat * sz≤M.toNat * sz:=Nat.mul_le_mul_right _ hLM
 have hgr:=World.grownBy_alloc w (.cells (madeCells zv.cells (M.toNat * sz)) e) none
 refine ⟨.slice (some ⟨w.heap.size,0,none⟩) L.toNat M.toNat,w.alloc (.cells (madeCells zv.cells (M.toNat * sz)) e),?_,hgr,?_,fun b hb=>by simp [blkOf] at hb; omega,rfl,fun h=>by cases h⟩
 ·simp only [execOp,hlv,hcv,Sem.run_bind,hrun,Result.andThen_ok,Sem.run_pure]
 ·have hrd:=range_made (im:=E.im) (w:=w.alloc (.cells (madeCells zv.cells (M.toNat * sz)) e)) (z:=zv.cells) (by omega) L.toNat
  rw [hzs] at hrd
  refine ⟨by simp [newE],(List.range (L.toNat * sz)).map (zv.cells[· % sz]!),some ⟨w.heap.size,0,none⟩,M.toNat,by simp [newE],⟨by simp,.inr ⟨w.heap.size,M.toNat,_,by simp [newE],Nat.zero_le _,heap_alloc_new w _,by simpa using hLM,by unfold maxLen; omega,by simp [madeCells],?_⟩⟩,by rw [m3]; exact hrd,?_,by simp [maxN]; omega⟩
  ·simp only [madeCells,Array.toList_map,Array.toList_range,List.length_replicate,hzs,← List.map_take,List.take_range,Nat.min_eq_left hmul]
  ·have:=made_ones (z:=zv.cells) (by rw [← m3]; exact m7) (by omega) (L.toNat * sz)
   rw [hzs] at this; exact this) rfl
theorem fill_size {place:Nat→Option (Nat × Nat)}:∀ {ps:List (Nat × Value)} {cells out:Array Value},Instr.fill place cells ps=some out→out.size=cells.size
 | [],cells,out,h=>by simp only [Instr.fill,Option.some.injEq] at h; rw [h]
 | (i,v)::ps,cells,out,h=>by
   simp only [Instr.fill] at h
   split at h
   ·cases h
   ·split at h
    ·cases h
    ·rename_i off size hp hc
     rw [fill_size h]
     have:∀ (l:List (Value × Nat)) (c:Array Value),(l.foldl (fun cs (p:Value × Nat)=>cs.setIfInBounds (off+p.2) p.1) c).size=c.size:=by
      intro l; induction l with
      | nil=>intro c; rfl
      | cons p l ih=>intro c; simp only [List.foldl_cons]; rw [ih]; simp
     rw [← Array.foldl_toList]
     exact this _ _
theorem parts_row {E:Env} {w:World} {ac:Act} {sz:Nat}:∀ {ps:List (Nat × Operand)} {avs:List AV},(∀ (i:Nat) p av,ps[i]? = some p→avs[i]? = some av→Rd E w av (ac.eval p.2))→ps.length=avs.length →
 Parts E w (fun i=>some (i * sz,sz)) (ps.map fun p=>(p.1,ac.eval p.2)) ((ps.zip avs).map fun p=>(p.1.1 * sz,sz,p.2))
 | [],[],_,_=>trivial
 | [],_::_,_,h=>by simp at h
 | _::_,[],_,h=>by simp at h
 | p::ps,a::avs,hr,h=>⟨⟨rfl,hr 0 p a rfl rfl⟩,parts_row (fun i p' a' h1 h2=>hr (i+1) p' a' (by simpa using h1) (by simpa using h2)) (by simpa using h)⟩
theorem q_rowlit {e:TypeId} {sz len:Nat} {z:List Value} {ps:List (Nat × Operand)} {avs cs cs':List AV} (rd:List Nat) (hg:gOK st g) (hv:optAll (viewN true (restr rd st.h) 4) (ps.map fun p=>ev st p.2)=some avs)
 (hf:fillA (List.replicate len (z.map .lit)).flatten ((ps.zip avs).map fun p=>(p.1.1 * sz,sz,p.2))=some cs) (hp:mapL (fun _=>none) cs=some cs') :
 Step P st ⟨⟨d,g,.rowlit e sz len z ps⟩,.own st.nx,rd,[(st.nx,some ⟨true,false,e,sz,chunk sz len cs'⟩)],1⟩ :=
  step_new (ob:=⟨true,false,e,sz,chunk sz len cs'⟩) rd hg (fun o C E ac w sx hlow R hr hh hnl=>by
 obtain ⟨dst,o,ty,pos,after,guard⟩:=o
 obtain ⟨t,l,by_,rfl,het,hzt,hlen,rfl,hps⟩:=low_spec hlow
 obtain ⟨i,zv,m1,m2,m3,m4,m5,m6,m7,m8,m9⟩:=zeroOf_spec hzt
 have hzs:zv.cells.size=sz:=by have:=congrArg List.length m3; simp at this; omega
 have H0:HeapOK E w (restr rd st.h):=R.heap.restr hh
 have hE:∀ b,imV true E (restr rd st.h) b→E.im b:=by
  rintro b (hb|⟨id,ob,k1,k2,k3,k4⟩)
  ·exact hb
  ·exact (H0.im id ob b k1 k2 k3).2 (k4 rfl)
 have hav:∀ {xs:List Operand} {ys:List AV},(∀ x ∈ xs,Rd E w (ev st x) (ac.eval x))→optAll (viewN true (restr rd st.h) 4) (xs.map (ev st))=some ys→∀ (j:Nat) x y,xs[j]? = some x→ys[j]? = some y→Rd E w y (ac.eval x):=by
  intro xs ys hx he j x y h1 h2
  obtain ⟨k1,k2⟩:=optAll_get he
  obtain ⟨y',q1,q2⟩:=k2 j (ev st x) (by simp [h1])
  rw [h2] at q1
  obtain rfl:=Option.some.inj q1
  exact RdI.rd _ _ (RdI.mono hE (fun b h=>rfl) _ _ (view_rd H0 4 _ _ _ (hx x (List.mem_of_getElem? h1)) q2))
 have hlenav:=(optAll_get hv).1
 have hparts:=parts_row (E:=E) (w:=w) (ac:=ac) (sz:=sz) (ps:=l.toList) (avs:=avs) (fun j p av h1 h2=>hav (xs:=l.toList.map (·.2)) (ys:=avs) (fun x hx=>hr x (by simpa [AOp.opds] using hx)) (by rw [List.map_map]; exact hv) j p.2 av (by simp [h1]) h2) (by simpa using hlenav)
 have hzr:(zeroValue e).run P w=.ok zv w:=by simp [zeroValue,typeInfo,m1,m2]
 have hz0:len * sz=0→((Array.range (len * sz)).map ((#[]:Array Value)[· % (#[]:Array Value).size]!))=((List.range (len * sz)).map (zv.cells[· % sz]!)).toArray:=fun h=>by simp [h]
 have hz1:((Array.range (len * sz)).map (zv.cells[· % zv.cells.size]!))=((List.range (len * sz)).map (zv.cells[· % sz]!)).toArray:=by
  apply Array.ext'
  simp [hzs]
 have hrd0:RdL E w (List.replicate len (z.map .lit)).flatten ((List.range (len * sz)).map (zv.cells[· % sz]!)):=by
  have:=range_made (im:=E.im) (w:=w) (z:=zv.cells) (by omega) len
  rw [hzs,← m3] at this
  have flat:∀ {es:List (List AV)} {vs:List Value},RdIE E.im w sz es vs→RdL E w es.flatten vs:=by
   intro es; induction es with
   | nil=>intro vs h; simp only [RdIE] at h; subst h; rfl
   | cons e es ih =>
     intro vs h
     simp only [RdIE] at h
     obtain ⟨x,rest,rfl,_,h2,h3⟩:=h
     simp only [List.flatten_cons]
     exact (RdIL.rd _ _ h2).append (ih h3)
  exact flat this
 have h10:Ones ((List.range (len * sz)).map (zv.cells[· % sz]!)):=by
  have:=made_ones (z:=zv.cells) (by rw [← m3]; exact m7) (by omega) (len * sz)
  rw [hzs] at this; exact this
 obtain ⟨out,o1,o2,o3⟩:=fill_run (E:=E) (w:=w) (place:=fun i=>some (i * sz,sz)) (cells:=((List.range (len * sz)).map (zv.cells[· % sz]!)).toArray) (by simpa using hrd0) (by simpa using h10) hparts hf
 have hos:=fill_size o1
 simp only [List.size_toArray,List.length_map,List.length_range] at hos
 have hgr:=World.grownBy_alloc w (.cells out e) none
 refine ⟨.slice (some ⟨w.heap.size,0,none⟩) len len,w.alloc (.cells out e),?_,hgr,?_,fun b hb=>by simp [blkOf] at hb; omega,rfl,fun h=>by cases h⟩
 ·have hsz:(sizeOf e).run P w=.ok sz w:=by simp [sizeOf,typeInfo,m1,m4]
  have hng:¬ len * sz > 2 ^ 24:=by omega
  have hpl:(l.map fun (p:Nat × Operand)=>(p.1,ac.eval p.2)).toList=l.toList.map fun p=>(p.1,ac.eval p.2):=by simp
  have hgo:(Instr.buildSlice t len (l.map fun (p:Nat × Operand)=>(p.1,ac.eval p.2))).run P w=.ok (.slice (some ⟨w.heap.size,0,none⟩) len len) (w.alloc (.cells out e)):=by
   by_cases h:len * sz=0
   ·simp only [Instr.buildSlice,Sem.run_bind,run_underlying (elemsOf_spec het) w,Result.andThen_ok,hsz,if_neg hng,if_pos h,hz0 h,hpl,o1,Sem.run_pure]
    simp [newRow]
   ·simp only [Instr.buildSlice,Sem.run_bind,run_underlying (elemsOf_spec het) w,Result.andThen_ok,hsz,if_neg hng,if_neg h,hzr,hz1,hpl,o1,Sem.run_pure]
    simp [newRow]
  simp only [execOp,Sem.run_bind,hgo,Result.andThen_ok,Sem.run_pure]
 ·have hle:len≤16777216:=by
   have:=Nat.le_mul_of_pos_right len m8; omega
  refine ⟨by simp [newE],out.toList,some ⟨w.heap.size,0,none⟩,len,by simp [newE,chunk_length],⟨by simp [chunk_length]; omega,.inr ⟨w.heap.size,len,out,by simp [newE,chunk_length],Nat.zero_le _,heap_alloc_new w _,by simp [chunk_length],by unfold maxLen; omega,hos,?_⟩⟩,?_,o3,by simp [chunk_length,maxN]; omega⟩
  ·simp only [chunk_length]
   rw [List.take_of_length_le (by simp; omega)]
  ·exact RdIE.mono (fun b h=>h) (fun b hb=>hgr.block b (R.heap.lt b hb) (by simp)) _ _ _ (chunk_rd (sz:=sz) len (pure_rdL hp o2) (by simp; omega))) rfl
end
inductive Runs (P:Program):List SD→List AInst→St→List SD→List AInst→St→Prop
 | refl (acc:List SD) (l:List AInst) (st:St):Runs P acc l st acc l st
 | step {s:SD} {acc:List SD} {l:List AInst} {st:St} {acc':List SD} {l':List AInst} {st':St}:Step P st s→Runs P (s::acc) l (st.app s) acc' l' st'→Runs P acc (s.i::l) st acc' l' st'
def RG (P:Program) (acc:List SD) (l:List AInst) (st:St) (K:List SD→St→Prop):Prop:=∃ ss st',Steps P l st ss st'∧K (acc.reverse++ss) st'
theorem rg_nil {P:Program} {acc:List SD} {st:St} {K:List SD→St→Prop} (h:K acc.reverse st):RG P acc [] st K:=⟨[],st,.nil st,by rw [List.append_nil]; exact h⟩
theorem rg_runs {P:Program} {acc:List SD} {l:List AInst} {st:St} {acc':List SD} {l':List AInst} {st':St} {K:List SD→St→Prop} (h:Runs P acc l st acc' l' st'):RG P acc' l' st' K→RG P acc l st K:=by
 induction h with
 | refl acc l st=>exact id
 | @step s acc l st acc' l' st' h hs ih =>
   intro k
   obtain ⟨ss,st'',h1,h2⟩:=ih k
   exact ⟨s::ss,st'',.cons h h1,by simpa using h2⟩
theorem Runs.step' {P:Program} {i:AInst} {v:AV} {rd:List Nat} {upd:Hp} {nw:Nat} {l:List AInst} {st:St} {acc acc':List SD} {l':List AInst} {st':St} (h:Step P st ⟨i,v,rd,upd,nw⟩) (hs:Runs P (⟨i,v,rd,upd,nw⟩::acc) l (st.app ⟨i,v,rd,upd,nw⟩) acc' l' st'):Runs P acc (i::l) st acc' l' st':=.step h hs
theorem RG.step {P:Program} {i:AInst} {v:AV} {rd:List Nat} {upd:Hp} {nw:Nat} {l:List AInst} {st:St} {acc:List SD} {K:List SD→St→Prop} (h:Step P st ⟨i,v,rd,upd,nw⟩) (hs:RG P (⟨i,v,rd,upd,nw⟩::acc) l (st.app ⟨i,v,rd,upd,nw⟩) K):RG P acc (i::l) st K:=rg_runs (.step h (.refl _ _ _)) hs
theorem aw_reg {P:Program} {C:Ctx} {Q:Exit→St→Prop} {st:St} {d:Bool} {l:List AInst} {free:List (Nat × Nat)} (h:RG P [] l st fun ss st'=>(bif d then indepOK ss free else true)=true∧Q .normal st'):AW P C (.ops d l free) Q st:=by
 obtain ⟨ss,st',h1,h2,h3⟩:=h
 exact aw_ops h1 h2 h3
theorem Step.cast {P:Program} {st:St} {i:AInst} {v v':AV} {rd:List Nat} {upd:Hp} {nw:Nat} (h:Step P st ⟨i,v,rd,upd,nw⟩) (e:v=v'):Step P st ⟨i,v',rd,upd,nw⟩:=e ▸ h
section
variable {P:Program} {tt:List (Nat × AV)} {hh:Hp} {nn dd:Nat} {g:Option (Nat × Bool)} {l:List AInst} {acc acc':List SD} {l':List AInst} {st':St}
theorem s_movL {x:Operand} {v:Value} (hg:gOK ⟨tt,hh,nn⟩ g) (hx:ev ⟨tt,hh,nn⟩ x=.lit v) (h:Runs P (⟨⟨some dd,g,.mov x⟩,.lit v,[],[],0⟩::acc) l ⟨(dd,.lit v)::tt,hh,nn⟩ acc' l' st'):Runs P acc (⟨some dd,g,.mov x⟩::l) ⟨tt,hh,nn⟩ acc' l' st':=Runs.step' ((q_mov hg).cast (hx)) h
theorem s_movS {x:Operand} {sz:Nat} {es:List (List AV)} (hg:gOK ⟨tt,hh,nn⟩ g) (hx:ev ⟨tt,hh,nn⟩ x=.sl sz es) (h:Runs P (⟨⟨some dd,g,.mov x⟩,.sl sz es,[],[],0⟩::acc) l ⟨(dd,.sl sz es)::tt,hh,nn⟩ acc' l' st'):Runs P acc (⟨some dd,g,.mov x⟩::l) ⟨tt,hh,nn⟩ acc' l' st':=Runs.step' ((q_mov hg).cast (hx)) h
theorem s_movO {x:Operand} {id:Nat} (hg:gOK ⟨tt,hh,nn⟩ g) (hx:ev ⟨tt,hh,nn⟩ x=.own id) (h:Runs P (⟨⟨some dd,g,.mov x⟩,.own id,[],[],0⟩::acc) l ⟨(dd,.own id)::tt,hh,nn⟩ acc' l' st'):Runs P acc (⟨some dd,g,.mov x⟩::l) ⟨tt,hh,nn⟩ acc' l' st':=Runs.step' ((q_mov hg).cast (hx)) h
theorem s_movT {x:Operand} {cs:List AV} (hg:gOK ⟨tt,hh,nn⟩ g) (hx:ev ⟨tt,hh,nn⟩ x=.tup cs) (h:Runs P (⟨⟨some dd,g,.mov x⟩,.tup cs,[],[],0⟩::acc) l ⟨(dd,.tup cs)::tt,hh,nn⟩ acc' l' st'):Runs P acc (⟨some dd,g,.mov x⟩::l) ⟨tt,hh,nn⟩ acc' l' st':=Runs.step' ((q_mov hg).cast (hx)) h
theorem s_movF {x:Operand} {f:FuncId} {fi ca:List AV} (hg:gOK ⟨tt,hh,nn⟩ g) (hx:ev ⟨tt,hh,nn⟩ x=.fn f fi ca) (h:Runs P (⟨⟨some dd,g,.mov x⟩,.fn f fi ca,[],[],0⟩::acc) l ⟨(dd,.fn f fi ca)::tt,hh,nn⟩ acc' l' st'):Runs P acc (⟨some dd,g,.mov x⟩::l) ⟨tt,hh,nn⟩ acc' l' st':=Runs.step' ((q_mov hg).cast (hx)) h
theorem s_movX {x:Operand}  (hg:gOK ⟨tt,hh,nn⟩ g) (hx:ev ⟨tt,hh,nn⟩ x=.any) (h:Runs P (⟨⟨some dd,g,.mov x⟩,.any,[],[],0⟩::acc) l ⟨(dd,.any)::tt,hh,nn⟩ acc' l' st'):Runs P acc (⟨some dd,g,.mov x⟩::l) ⟨tt,hh,nn⟩ acc' l' st':=Runs.step' ((q_mov hg).cast (hx)) h
theorem s_no {o:AOp} (hg:gNo ⟨tt,hh,nn⟩ g) (h:Runs P (⟨⟨some dd,g,o⟩,.any,[],[],0⟩::acc) l ⟨(dd,.any)::tt,hh,nn⟩ acc' l' st'):Runs P acc (⟨some dd,g,o⟩::l) ⟨tt,hh,nn⟩ acc' l' st':=Runs.step' (step_no hg) h
theorem s_pickTL {c x y:Operand} {v:Value} (hg:gOK ⟨tt,hh,nn⟩ g) (hc:ev ⟨tt,hh,nn⟩ c=.lit (.bool true)) (hx:ev ⟨tt,hh,nn⟩ x=.lit v) (h:Runs P (⟨⟨some dd,g,.pick c x y⟩,.lit v,[],[],0⟩::acc) l ⟨(dd,.lit v)::tt,hh,nn⟩ acc' l' st'):Runs P acc (⟨some dd,g,.pick c x y⟩::l) ⟨tt,hh,nn⟩ acc' l' st':=Runs.step' ((q_pick hg hc).cast (hx)) h
theorem s_pickFL {c x y:Operand} {v:Value} (hg:gOK ⟨tt,hh,nn⟩ g) (hc:ev ⟨tt,hh,nn⟩ c=.lit (.bool false)) (hx:ev ⟨tt,hh,nn⟩ y=.lit v) (h:Runs P (⟨⟨some dd,g,.pick c x y⟩,.lit v,[],[],0⟩::acc) l ⟨(dd,.lit v)::tt,hh,nn⟩ acc' l' st'):Runs P acc (⟨some dd,g,.pick c x y⟩::l) ⟨tt,hh,nn⟩ acc' l' st':=Runs.step' ((q_pick hg hc).cast (hx)) h
theorem s_add64 {x y:Operand} {a b:Int} (hg:gOK ⟨tt,hh,nn⟩ g) (hx:ev ⟨tt,hh,nn⟩ x=.lit (.int .i64 a)) (hy:ev ⟨tt,hh,nn⟩ y=.lit (.int .i64 b)) (h1 : -9223372036854775808≤a+b) (h2:a+b≤9223372036854775807) (h:Runs P (⟨⟨some dd,g,.bin .add x y⟩,.lit (.int .i64 (a+b)),[],[],0⟩::acc) l ⟨(dd,.lit (.int .i64 (a+b)))::tt,hh,nn⟩ acc' l' st'):Runs P acc (⟨some dd,g,.bin .add x y⟩::l) ⟨tt,hh,nn⟩ acc' l' st':=Runs.step' ((q_int hg hx hy rfl).cast (congrArg (fun n=>AV.lit (.int .i64 n)) (IntWalk.i64_in _ ⟨h1,h2⟩))) h
theorem s_sub64 {x y:Operand} {a b:Int} (hg:gOK ⟨tt,hh,nn⟩ g) (hx:ev ⟨tt,hh,nn⟩ x=.lit (.int .i64 a)) (hy:ev ⟨tt,hh,nn⟩ y=.lit (.int .i64 b)) (h1 : -9223372036854775808≤a - b) (h2:a - b≤9223372036854775807) (h:Runs P (⟨⟨some dd,g,.bin .sub x y⟩,.lit (.int .i64 (a - b)),[],[],0⟩::acc) l ⟨(dd,.lit (.int .i64 (a - b)))::tt,hh,nn⟩ acc' l' st'):Runs P acc (⟨some dd,g,.bin .sub x y⟩::l) ⟨tt,hh,nn⟩ acc' l' st':=Runs.step' ((q_int hg hx hy rfl).cast (congrArg (fun n=>AV.lit (.int .i64 n)) (IntWalk.i64_in _ ⟨h1,h2⟩))) h
theorem s_mul64 {x y:Operand} {a b:Int} (hg:gOK ⟨tt,hh,nn⟩ g) (hx:ev ⟨tt,hh,nn⟩ x=.lit (.int .i64 a)) (hy:ev ⟨tt,hh,nn⟩ y=.lit (.int .i64 b)) (h1 : -9223372036854775808≤a * b∧a * b≤9223372036854775807) (h:Runs P (⟨⟨some dd,g,.bin .mul x y⟩,.lit (.int .i64 (a * b)),[],[],0⟩::acc) l ⟨(dd,.lit (.int .i64 (a * b)))::tt,hh,nn⟩ acc' l' st'):Runs P acc (⟨some dd,g,.bin .mul x y⟩::l) ⟨tt,hh,nn⟩ acc' l' st':=Runs.step' ((q_int hg hx hy rfl).cast (congrArg (fun n=>AV.lit (.int .i64 n)) (IntWalk.i64_in _ h1))) h
theorem s_ltT {x y:Operand} {k:IntKind} {a b:Int} (hg:gOK ⟨tt,hh,nn⟩ g) (hx:ev ⟨tt,hh,nn⟩ x=.lit (.int k a)) (hy:ev ⟨tt,hh,nn⟩ y=.lit (.int k b)) (h1:a<b) (h:Runs P (⟨⟨some dd,g,.bin .lss x y⟩,.lit (.bool true),[],[],0⟩::acc) l ⟨(dd,.lit (.bool true))::tt,hh,nn⟩ acc' l' st'):Runs P acc (⟨some dd,g,.bin .lss x y⟩::l) ⟨tt,hh,nn⟩ acc' l' st':=Runs.step' ((q_int hg hx hy rfl).cast (congrArg (fun n=>AV.lit (.bool n)) (decide_eq_true h1))) h
theorem s_ltF {x y:Operand} {k:IntKind} {a b:Int} (hg:gOK ⟨tt,hh,nn⟩ g) (hx:ev ⟨tt,hh,nn⟩ x=.lit (.int k a)) (hy:ev ⟨tt,hh,nn⟩ y=.lit (.int k b)) (h1:¬ a<b) (h:Runs P (⟨⟨some dd,g,.bin .lss x y⟩,.lit (.bool false),[],[],0⟩::acc) l ⟨(dd,.lit (.bool false))::tt,hh,nn⟩ acc' l' st'):Runs P acc (⟨some dd,g,.bin .lss x y⟩::l) ⟨tt,hh,nn⟩ acc' l' st':=Runs.step' ((q_int hg hx hy rfl).cast (congrArg (fun n=>AV.lit (.bool n)) (decide_eq_false h1))) h
theorem s_leT {x y:Operand} {k:IntKind} {a b:Int} (hg:gOK ⟨tt,hh,nn⟩ g) (hx:ev ⟨tt,hh,nn⟩ x=.lit (.int k a)) (hy:ev ⟨tt,hh,nn⟩ y=.lit (.int k b)) (h1:a≤b) (h:Runs P (⟨⟨some dd,g,.bin .leq x y⟩,.lit (.bool true),[],[],0⟩::acc) l ⟨(dd,.lit (.bool true))::tt,hh,nn⟩ acc' l' st'):Runs P acc (⟨some dd,g,.bin .leq x y⟩::l) ⟨tt,hh,nn⟩ acc' l' st':=Runs.step' ((q_int hg hx hy rfl).cast (congrArg (fun n=>AV.lit (.bool n)) (decide_eq_true h1))) h
theorem s_leF {x y:Operand} {k:IntKind} {a b:Int} (hg:gOK ⟨tt,hh,nn⟩ g) (hx:ev ⟨tt,hh,nn⟩ x=.lit (.int k a)) (hy:ev ⟨tt,hh,nn⟩ y=.lit (.int k b)) (h1:¬ a≤b) (h:Runs P (⟨⟨some dd,g,.bin .leq x y⟩,.lit (.bool false),[],[],0⟩::acc) l ⟨(dd,.lit (.bool false))::tt,hh,nn⟩ acc' l' st'):Runs P acc (⟨some dd,g,.bin .leq x y⟩::l) ⟨tt,hh,nn⟩ acc' l' st':=Runs.step' ((q_int hg hx hy rfl).cast (congrArg (fun n=>AV.lit (.bool n)) (decide_eq_false h1))) h
theorem s_gtT {x y:Operand} {k:IntKind} {a b:Int} (hg:gOK ⟨tt,hh,nn⟩ g) (hx:ev ⟨tt,hh,nn⟩ x=.lit (.int k a)) (hy:ev ⟨tt,hh,nn⟩ y=.lit (.int k b)) (h1:a > b) (h:Runs P (⟨⟨some dd,g,.bin .gtr x y⟩,.lit (.bool true),[],[],0⟩::acc) l ⟨(dd,.lit (.bool true))::tt,hh,nn⟩ acc' l' st'):Runs P acc (⟨some dd,g,.bin .gtr x y⟩::l) ⟨tt,hh,nn⟩ acc' l' st':=Runs.step' ((q_int hg hx hy rfl).cast (congrArg (fun n=>AV.lit (.bool n)) (decide_eq_true h1))) h
theorem s_gtF {x y:Operand} {k:IntKind} {a b:Int} (hg:gOK ⟨tt,hh,nn⟩ g) (hx:ev ⟨tt,hh,nn⟩ x=.lit (.int k a)) (hy:ev ⟨tt,hh,nn⟩ y=.lit (.int k b)) (h1:¬ a > b) (h:Runs P (⟨⟨some dd,g,.bin .gtr x y⟩,.lit (.bool false),[],[],0⟩::acc) l ⟨(dd,.lit (.bool false))::tt,hh,nn⟩ acc' l' st'):Runs P acc (⟨some dd,g,.bin .gtr x y⟩::l) ⟨tt,hh,nn⟩ acc' l' st':=Runs.step' ((q_int hg hx hy rfl).cast (congrArg (fun n=>AV.lit (.bool n)) (decide_eq_false h1))) h
theorem s_geT {x y:Operand} {k:IntKind} {a b:Int} (hg:gOK ⟨tt,hh,nn⟩ g) (hx:ev ⟨tt,hh,nn⟩ x=.lit (.int k a)) (hy:ev ⟨tt,hh,nn⟩ y=.lit (.int k b)) (h1:a ≥ b) (h:Runs P (⟨⟨some dd,g,.bin .geq x y⟩,.lit (.bool true),[],[],0⟩::acc) l ⟨(dd,.lit (.bool true))::tt,hh,nn⟩ acc' l' st'):Runs P acc (⟨some dd,g,.bin .geq x y⟩::l) ⟨tt,hh,nn⟩ acc' l' st':=Runs.step' ((q_int hg hx hy rfl).cast (congrArg (fun n=>AV.lit (.bool n)) (decide_eq_true h1))) h
theorem s_geF {x y:Operand} {k:IntKind} {a b:Int} (hg:gOK ⟨tt,hh,nn⟩ g) (hx:ev ⟨tt,hh,nn⟩ x=.lit (.int k a)) (hy:ev ⟨tt,hh,nn⟩ y=.lit (.int k b)) (h1:¬ a ≥ b) (h:Runs P (⟨⟨some dd,g,.bin .geq x y⟩,.lit (.bool false),[],[],0⟩::acc) l ⟨(dd,.lit (.bool false))::tt,hh,nn⟩ acc' l' st'):Runs P acc (⟨some dd,g,.bin .geq x y⟩::l) ⟨tt,hh,nn⟩ acc' l' st':=Runs.step' ((q_int hg hx hy rfl).cast (congrArg (fun n=>AV.lit (.bool n)) (decide_eq_false h1))) h
theorem s_eqT {x y:Operand} {k:IntKind} {a b:Int} (hg:gOK ⟨tt,hh,nn⟩ g) (hx:ev ⟨tt,hh,nn⟩ x=.lit (.int k a)) (hy:ev ⟨tt,hh,nn⟩ y=.lit (.int k b)) (h1:a=b) (h:Runs P (⟨⟨some dd,g,.bin .eql x y⟩,.lit (.bool true),[],[],0⟩::acc) l ⟨(dd,.lit (.bool true))::tt,hh,nn⟩ acc' l' st'):Runs P acc (⟨some dd,g,.bin .eql x y⟩::l) ⟨tt,hh,nn⟩ acc' l' st':=Runs.step' ((q_int hg hx hy rfl).cast (congrArg (fun n=>AV.lit (.bool n)) (beq_iff_eq.2 h1))) h
theorem s_eqF {x y:Operand} {k:IntKind} {a b:Int} (hg:gOK ⟨tt,hh,nn⟩ g) (hx:ev ⟨tt,hh,nn⟩ x=.lit (.int k a)) (hy:ev ⟨tt,hh,nn⟩ y=.lit (.int k b)) (h1:¬ a=b) (h:Runs P (⟨⟨some dd,g,.bin .eql x y⟩,.lit (.bool false),[],[],0⟩::acc) l ⟨(dd,.lit (.bool false))::tt,hh,nn⟩ acc' l' st'):Runs P acc (⟨some dd,g,.bin .eql x y⟩::l) ⟨tt,hh,nn⟩ acc' l' st':=Runs.step' ((q_int hg hx hy rfl).cast (congrArg (fun n=>AV.lit (.bool n)) (beq_eq_false_iff_ne.2 h1))) h
theorem s_neT {x y:Operand} {k:IntKind} {a b:Int} (hg:gOK ⟨tt,hh,nn⟩ g) (hx:ev ⟨tt,hh,nn⟩ x=.lit (.int k a)) (hy:ev ⟨tt,hh,nn⟩ y=.lit (.int k b)) (h1:¬ a=b) (h:Runs P (⟨⟨some dd,g,.bin .neq x y⟩,.lit (.bool true),[],[],0⟩::acc) l ⟨(dd,.lit (.bool true))::tt,hh,nn⟩ acc' l' st'):Runs P acc (⟨some dd,g,.bin .neq x y⟩::l) ⟨tt,hh,nn⟩ acc' l' st':=Runs.step' ((q_int hg hx hy rfl).cast (congrArg (fun n=>AV.lit (.bool n)) (bne_iff_ne.2 h1))) h
theorem s_neF {x y:Operand} {k:IntKind} {a b:Int} (hg:gOK ⟨tt,hh,nn⟩ g) (hx:ev ⟨tt,hh,nn⟩ x=.lit (.int k a)) (hy:ev ⟨tt,hh,nn⟩ y=.lit (.int k b)) (h1:a=b) (h:Runs P (⟨⟨some dd,g,.bin .neq x y⟩,.lit (.bool false),[],[],0⟩::acc) l ⟨(dd,.lit (.bool false))::tt,hh,nn⟩ acc' l' st'):Runs P acc (⟨some dd,g,.bin .neq x y⟩::l) ⟨tt,hh,nn⟩ acc' l' st':=Runs.step' ((q_int hg hx hy rfl).cast (congrArg (fun n=>AV.lit (.bool n)) (by rw [h1]; exact bne_self_eq_false _))) h
theorem s_int {op:BinOp} {x y:Operand} {k:IntKind} {a b:Int} {v:Value} (hg:gOK ⟨tt,hh,nn⟩ g) (hx:ev ⟨tt,hh,nn⟩ x=.lit (.int k a)) (hy:ev ⟨tt,hh,nn⟩ y=.lit (.int k b)) (hv:absInt op k a b=some v) (h:Runs P (⟨⟨some dd,g,.bin op x y⟩,.lit v,[],[],0⟩::acc) l ⟨(dd,.lit v)::tt,hh,nn⟩ acc' l' st'):Runs P acc (⟨some dd,g,.bin op x y⟩::l) ⟨tt,hh,nn⟩ acc' l' st':=Runs.step' (q_int hg hx hy hv) h
theorem s_div {x y:Operand} {k:IntKind} {a b:Int} (hg:gOK ⟨tt,hh,nn⟩ g) (hx:ev ⟨tt,hh,nn⟩ x=.lit (.int k a)) (hy:ev ⟨tt,hh,nn⟩ y=.lit (.int k b)) (hb:b≠0) (h:Runs P (⟨⟨some dd,g,.bin .quo x y⟩,.lit (.int k (k.wrap (a.tdiv b))),[],[],0⟩::acc) l ⟨(dd,.lit (.int k (k.wrap (a.tdiv b))))::tt,hh,nn⟩ acc' l' st'):Runs P acc (⟨some dd,g,.bin .quo x y⟩::l) ⟨tt,hh,nn⟩ acc' l' st':=Runs.step' (q_div hg hx hy hb) h
theorem s_rem {x y:Operand} {k:IntKind} {a b:Int} (hg:gOK ⟨tt,hh,nn⟩ g) (hx:ev ⟨tt,hh,nn⟩ x=.lit (.int k a)) (hy:ev ⟨tt,hh,nn⟩ y=.lit (.int k b)) (hb:b≠0) (h:Runs P (⟨⟨some dd,g,.bin .rem x y⟩,.lit (.int k (a.tmod b)),[],[],0⟩::acc) l ⟨(dd,.lit (.int k (a.tmod b)))::tt,hh,nn⟩ acc' l' st'):Runs P acc (⟨some dd,g,.bin .rem x y⟩::l) ⟨tt,hh,nn⟩ acc' l' st':=Runs.step' (q_rem hg hx hy hb) h
theorem s_bool {op:BinOp} {x y:Operand} {a b:Bool} {v:Value} (hg:gOK ⟨tt,hh,nn⟩ g) (hx:ev ⟨tt,hh,nn⟩ x=.lit (.bool a)) (hy:ev ⟨tt,hh,nn⟩ y=.lit (.bool b)) (hv:absBool op a b=some v) (h:Runs P (⟨⟨some dd,g,.binB op x y⟩,.lit v,[],[],0⟩::acc) l ⟨(dd,.lit v)::tt,hh,nn⟩ acc' l' st'):Runs P acc (⟨some dd,g,.binB op x y⟩::l) ⟨tt,hh,nn⟩ acc' l' st':=Runs.step' (q_bool hg hx hy hv) h
theorem s_not {x:Operand} {b:Bool} (hg:gOK ⟨tt,hh,nn⟩ g) (hx:ev ⟨tt,hh,nn⟩ x=.lit (.bool b)) (h:Runs P (⟨⟨some dd,g,.un .not x⟩,.lit (.bool !b),[],[],0⟩::acc) l ⟨(dd,.lit (.bool !b))::tt,hh,nn⟩ acc' l' st'):Runs P acc (⟨some dd,g,.un .not x⟩::l) ⟨tt,hh,nn⟩ acc' l' st':=Runs.step' (q_not hg hx) h
theorem s_notT {x:Operand} (hg:gOK ⟨tt,hh,nn⟩ g) (hx:ev ⟨tt,hh,nn⟩ x=.lit (.bool true)) (h:Runs P (⟨⟨some dd,g,.un .not x⟩,.lit (.bool false),[],[],0⟩::acc) l ⟨(dd,.lit (.bool false))::tt,hh,nn⟩ acc' l' st'):Runs P acc (⟨some dd,g,.un .not x⟩::l) ⟨tt,hh,nn⟩ acc' l' st':=Runs.step' (q_not hg hx) h
theorem s_notF {x:Operand} (hg:gOK ⟨tt,hh,nn⟩ g) (hx:ev ⟨tt,hh,nn⟩ x=.lit (.bool false)) (h:Runs P (⟨⟨some dd,g,.un .not x⟩,.lit (.bool true),[],[],0⟩::acc) l ⟨(dd,.lit (.bool true))::tt,hh,nn⟩ acc' l' st'):Runs P acc (⟨some dd,g,.un .not x⟩::l) ⟨tt,hh,nn⟩ acc' l' st':=Runs.step' (q_not hg hx) h
theorem s_neg64 {x:Operand} {a:Int} (hg:gOK ⟨tt,hh,nn⟩ g) (hx:ev ⟨tt,hh,nn⟩ x=.lit (.int .i64 a)) (h1 : -9223372036854775808 ≤ -a) (h2 : -a≤9223372036854775807) (h:Runs P (⟨⟨some dd,g,.un .neg x⟩,.lit (.int .i64 (-a)),[],[],0⟩::acc) l ⟨(dd,.lit (.int .i64 (-a)))::tt,hh,nn⟩ acc' l' st'):Runs P acc (⟨some dd,g,.un .neg x⟩::l) ⟨tt,hh,nn⟩ acc' l' st':=Runs.step' ((q_neg hg hx).cast (congrArg (fun n=>AV.lit (.int .i64 n)) (by rw [IntWalk.i64_in _ (by omega)]; omega))) h
theorem s_neg {x:Operand} {k:IntKind} {a:Int} (hg:gOK ⟨tt,hh,nn⟩ g) (hx:ev ⟨tt,hh,nn⟩ x=.lit (.int k a)) (h:Runs P (⟨⟨some dd,g,.un .neg x⟩,.lit (.int k (k.wrap (0 - a))),[],[],0⟩::acc) l ⟨(dd,.lit (.int k (k.wrap (0 - a))))::tt,hh,nn⟩ acc' l' st'):Runs P acc (⟨some dd,g,.un .neg x⟩::l) ⟨tt,hh,nn⟩ acc' l' st':=Runs.step' (q_neg hg hx) h
theorem s_conv64 {x:Operand} {k0:IntKind} {a:Int} (hg:gOK ⟨tt,hh,nn⟩ g) (hx:ev ⟨tt,hh,nn⟩ x=.lit (.int k0 a)) (h1 : -9223372036854775808≤a) (h2:a≤9223372036854775807) (h:Runs P (⟨⟨some dd,g,.conv .i64 x⟩,.lit (.int .i64 a),[],[],0⟩::acc) l ⟨(dd,.lit (.int .i64 a))::tt,hh,nn⟩ acc' l' st'):Runs P acc (⟨some dd,g,.conv .i64 x⟩::l) ⟨tt,hh,nn⟩ acc' l' st':=Runs.step' ((q_conv hg hx).cast (congrArg (fun n=>AV.lit (.int .i64 n)) (IntWalk.i64_in _ ⟨h1,h2⟩))) h
theorem s_conv {x:Operand} {k k0:IntKind} {a:Int} (hg:gOK ⟨tt,hh,nn⟩ g) (hx:ev ⟨tt,hh,nn⟩ x=.lit (.int k0 a)) (h:Runs P (⟨⟨some dd,g,.conv k x⟩,.lit (.int k (k.wrap a)),[],[],0⟩::acc) l ⟨(dd,.lit (.int k (k.wrap a)))::tt,hh,nn⟩ acc' l' st'):Runs P acc (⟨some dd,g,.conv k x⟩::l) ⟨tt,hh,nn⟩ acc' l' st':=Runs.step' (q_conv hg hx) h
theorem s_faddr {x:Operand} {off id i off':Nat} (hg:gOK ⟨tt,hh,nn⟩ g) (hx:ev ⟨tt,hh,nn⟩ x=.optr id i off') (h:Runs P (⟨⟨some dd,g,.faddr off x⟩,.optr id i (off'+off),[],[],0⟩::acc) l ⟨(dd,.optr id i (off'+off))::tt,hh,nn⟩ acc' l' st'):Runs P acc (⟨some dd,g,.faddr off x⟩::l) ⟨tt,hh,nn⟩ acc' l' st':=Runs.step' (q_faddr hg hx) h
theorem s_faddrE {x:Operand} {off sz i off':Nat} {es:List (List AV)} (hg:gOK ⟨tt,hh,nn⟩ g) (hx:ev ⟨tt,hh,nn⟩ x=.ep sz es i off') (h:Runs P (⟨⟨some dd,g,.faddr off x⟩,.ep sz es i (off'+off),[],[],0⟩::acc) l ⟨(dd,.ep sz es i (off'+off))::tt,hh,nn⟩ acc' l' st'):Runs P acc (⟨some dd,g,.faddr off x⟩::l) ⟨tt,hh,nn⟩ acc' l' st':=Runs.step' (q_faddrE hg hx) h
theorem cut_one {e:List AV} {off:Nat} {v:AV} (h:e[off]? = some v):cut e off 1=some [v]:=by
 obtain ⟨h1,h2⟩:=List.getElem?_eq_some_iff.1 h
 have:Nat.ble (off+1) e.length=true:=by rw [Nat.ble_eq]; exact h1
 simp only [cut,this,cond_true]
 rw [List.drop_eq_getElem_cons h1,h2]; rfl
theorem cut_all {e:List AV} {n:Nat} (h:e.length=n):cut e 0 n=some e:=by
 subst h
 have:Nat.ble (0+e.length) e.length=true:=by rw [Nat.ble_eq]; omega
 simp only [cut,this,cond_true,List.drop_zero,List.take_length]
theorem s_load1 {x:Operand} {id i off:Nat} {ob:OB} {e:List AV} {v:AV} (hg:gOK ⟨tt,hh,nn⟩ g) (hx:ev ⟨tt,hh,nn⟩ x=.optr id i off) (ho:hl hh id=some ob) (he:ob.es[i]? = some e) (hv:e[off]? = some v) (h:Runs P (⟨⟨some dd,g,.load false 1 x⟩,v,[id],[],0⟩::acc) l ⟨(dd,v)::tt,hh,nn⟩ acc' l' st'):Runs P acc (⟨some dd,g,.load false 1 x⟩::l) ⟨tt,hh,nn⟩ acc' l' st':=Runs.step' (q_load hg hx ho he (cut_one hv) rfl) h
theorem s_loadA {n:Nat} {x:Operand} {id i:Nat} {ob:OB} {e:List AV} (hg:gOK ⟨tt,hh,nn⟩ g) (hx:ev ⟨tt,hh,nn⟩ x=.optr id i 0) (ho:hl hh id=some ob) (he:ob.es[i]? = some e) (hn:e.length=n) (h:Runs P (⟨⟨some dd,g,.load true n x⟩,.agg e,[id],[],0⟩::acc) l ⟨(dd,.agg e)::tt,hh,nn⟩ acc' l' st'):Runs P acc (⟨some dd,g,.load true n x⟩::l) ⟨tt,hh,nn⟩ acc' l' st':=Runs.step' (q_load hg hx ho he (cut_all hn) rfl) h
theorem s_loadG {n:Nat} {x:Operand} {id i off:Nat} {ob:OB} {e cs:List AV} (hg:gOK ⟨tt,hh,nn⟩ g) (hx:ev ⟨tt,hh,nn⟩ x=.optr id i off) (ho:hl hh id=some ob) (he:ob.es[i]? = some e) (hc:cut e off n=some cs) (h:Runs P (⟨⟨some dd,g,.load true n x⟩,.agg cs,[id],[],0⟩::acc) l ⟨(dd,.agg cs)::tt,hh,nn⟩ acc' l' st'):Runs P acc (⟨some dd,g,.load true n x⟩::l) ⟨tt,hh,nn⟩ acc' l' st':=Runs.step' (q_load hg hx ho he hc rfl) h
theorem s_loadE1 {x:Operand} {sz i off:Nat} {es:List (List AV)} {e:List AV} {v:AV} (hg:gOK ⟨tt,hh,nn⟩ g) (hx:ev ⟨tt,hh,nn⟩ x=.ep sz es i off) (he:es[i]? = some e) (hv:e[off]? = some v) (h:Runs P (⟨⟨some dd,g,.load false 1 x⟩,v,[],[],0⟩::acc) l ⟨(dd,v)::tt,hh,nn⟩ acc' l' st'):Runs P acc (⟨some dd,g,.load false 1 x⟩::l) ⟨tt,hh,nn⟩ acc' l' st':=Runs.step' (q_loadE hg hx he (cut_one hv) rfl) h
theorem s_loadEA {n:Nat} {x:Operand} {sz i:Nat} {es:List (List AV)} {e:List AV} (hg:gOK ⟨tt,hh,nn⟩ g) (hx:ev ⟨tt,hh,nn⟩ x=.ep sz es i 0) (he:es[i]? = some e) (hn:e.length=n) (h:Runs P (⟨⟨some dd,g,.load true n x⟩,.agg e,[],[],0⟩::acc) l ⟨(dd,.agg e)::tt,hh,nn⟩ acc' l' st'):Runs P acc (⟨some dd,g,.load true n x⟩::l) ⟨tt,hh,nn⟩ acc' l' st':=Runs.step' (q_loadE hg hx he (cut_all hn) rfl) h
theorem s_extract {i:Nat} {x:Operand} {vs:List AV} {v:AV} (hg:gOK ⟨tt,hh,nn⟩ g) (hx:ev ⟨tt,hh,nn⟩ x=.tup vs) (hv:vs[i]? = some v) (h:Runs P (⟨⟨some dd,g,.extract i x⟩,v,[],[],0⟩::acc) l ⟨(dd,v)::tt,hh,nn⟩ acc' l' st'):Runs P acc (⟨some dd,g,.extract i x⟩::l) ⟨tt,hh,nn⟩ acc' l' st':=Runs.step' (q_extract hg hx hv) h
theorem s_fieldG {off n:Nat} {x:Operand} {cs cs':List AV} (hg:gOK ⟨tt,hh,nn⟩ g) (hx:ev ⟨tt,hh,nn⟩ x=.agg cs) (hc:cut cs off n=some cs') (h:Runs P (⟨⟨some dd,g,.field true off n x⟩,.agg cs',[],[],0⟩::acc) l ⟨(dd,.agg cs')::tt,hh,nn⟩ acc' l' st'):Runs P acc (⟨some dd,g,.field true off n x⟩::l) ⟨tt,hh,nn⟩ acc' l' st':=Runs.step' (q_field hg hx hc rfl) h
theorem s_len {x:Operand} {sz:Nat} {es:List (List AV)} {n:Int} (hg:gOK ⟨tt,hh,nn⟩ g) (hx:ev ⟨tt,hh,nn⟩ x=.sl sz es) (hn:(es.length:Int)=n) (h:Runs P (⟨⟨some dd,g,.len x⟩,.lit (.int .i64 n),[],[],0⟩::acc) l ⟨(dd,.lit (.int .i64 n))::tt,hh,nn⟩ acc' l' st'):Runs P acc (⟨some dd,g,.len x⟩::l) ⟨tt,hh,nn⟩ acc' l' st':=Runs.step' ((q_len hg hx).cast (by rw [hn])) h
theorem s_lenO {x:Operand} {id:Nat} {ob:OB} {n:Int} (hg:gOK ⟨tt,hh,nn⟩ g) (hx:ev ⟨tt,hh,nn⟩ x=.own id) (ho:hl hh id=some ob) (hr:ob.row=true) (hn:(ob.es.length:Int)=n) (h:Runs P (⟨⟨some dd,g,.len x⟩,.lit (.int .i64 n),[id],[],0⟩::acc) l ⟨(dd,.lit (.int .i64 n))::tt,hh,nn⟩ acc' l' st'):Runs P acc (⟨some dd,g,.len x⟩::l) ⟨tt,hh,nn⟩ acc' l' st':=Runs.step' ((q_lenO hg hx ho hr).cast (by rw [hn])) h
theorem s_iaddr {sz:Nat} {x y:Operand} {es:List (List AV)} {k:IntKind} {z:Int} (hg:gOK ⟨tt,hh,nn⟩ g) (hx:ev ⟨tt,hh,nn⟩ x=.sl sz es) (hy:ev ⟨tt,hh,nn⟩ y=.lit (.int k z)) (h0:0≤z) (h1:z<es.length) (h:Runs P (⟨⟨some dd,g,.iaddr sz x y⟩,.ep sz es z.toNat 0,[],[],0⟩::acc) l ⟨(dd,.ep sz es z.toNat 0)::tt,hh,nn⟩ acc' l' st'):Runs P acc (⟨some dd,g,.iaddr sz x y⟩::l) ⟨tt,hh,nn⟩ acc' l' st':=Runs.step' (q_iaddr hg hx hy h0 h1) h
theorem s_iaddrO {sz id:Nat} {x y:Operand} {ob:OB} {k:IntKind} {z:Int} (hg:gOK ⟨tt,hh,nn⟩ g) (hx:ev ⟨tt,hh,nn⟩ x=.own id) (ho:hl hh id=some ob) (hr:ob.row=true) (hs:ob.sz=sz) (hy:ev ⟨tt,hh,nn⟩ y=.lit (.int k z)) (h0:0≤z) (h1:z<ob.es.length) (h:Runs P (⟨⟨some dd,g,.iaddr sz x y⟩,.optr id z.toNat 0,[id],[],0⟩::acc) l ⟨(dd,.optr id z.toNat 0)::tt,hh,nn⟩ acc' l' st'):Runs P acc (⟨some dd,g,.iaddr sz x y⟩::l) ⟨tt,hh,nn⟩ acc' l' st':=Runs.step' (q_iaddrO hg hx ho hr hs hy h0 h1) h
theorem s_mkfn {f:FuncId} {fi ca:List Operand} (hg:gOK ⟨tt,hh,nn⟩ g)  (h:Runs P (⟨⟨some dd,g,.mkfn f fi ca⟩,.fn f (fi.map (ev ⟨tt,hh,nn⟩)) (ca.map (ev ⟨tt,hh,nn⟩)),[],[],0⟩::acc) l ⟨(dd,.fn f (fi.map (ev ⟨tt,hh,nn⟩)) (ca.map (ev ⟨tt,hh,nn⟩)))::tt,hh,nn⟩ acc' l' st'):Runs P acc (⟨some dd,g,.mkfn f fi ca⟩::l) ⟨tt,hh,nn⟩ acc' l' st':=Runs.step' (q_mkfn hg) h
theorem s_call {fo:Operand} {args:List Operand} {f:FuncId} {fi ca avs avs':List AV} {r:AV} (ro:Bool) (rd:List Nat) (hg:gOK ⟨tt,hh,nn⟩ g) (hf:ev ⟨tt,hh,nn⟩ fo=.fn f fi ca) (hv:optAll (viewN ro (restr rd hh) 4) (fi++(args.map (ev ⟨tt,hh,nn⟩)++ca))=some avs) (hc:ACalls P f avs' r) (hs:SubL avs avs') (hro:(ro || scal r)=true) (h:Runs P (⟨⟨some dd,g,.call fo args⟩,r,rd,[],0⟩::acc) l ⟨(dd,r)::tt,hh,nn⟩ acc' l' st'):Runs P acc (⟨some dd,g,.call fo args⟩::l) ⟨tt,hh,nn⟩ acc' l' st':=Runs.step' (q_call ro rd hg hf hv hs hc hro) h
theorem s_alloc {e:TypeId} {z:List Value} (hg:gOK ⟨tt,hh,nn⟩ g)  (h:Runs P (⟨⟨some dd,g,.alloc e z⟩,.optr nn 0 0,[],[(nn,some ⟨false,false,e,z.length,[z.map .lit]⟩)],1⟩::acc) l ⟨(dd,.optr nn 0 0)::tt,(nn,some ⟨false,false,e,z.length,[z.map .lit]⟩)::hh,nn+1⟩ acc' l' st'):Runs P acc (⟨some dd,g,.alloc e z⟩::l) ⟨tt,hh,nn⟩ acc' l' st':=Runs.step' (q_alloc hg) h
theorem s_box {e:TypeId} {n:Nat} {x:Operand} {av:AV} {cs:List AV} (hg:gOK ⟨tt,hh,nn⟩ g) (hx:ev ⟨tt,hh,nn⟩ x=av) (hc:cellsA av=some cs) (hn:cs.length=n) (h:Runs P (⟨⟨some dd,g,.box e n x⟩,.optr nn 0 0,[],[(nn,some ⟨false,false,e,n,[cs]⟩)],1⟩::acc) l ⟨(dd,.optr nn 0 0)::tt,(nn,some ⟨false,false,e,n,[cs]⟩)::hh,nn+1⟩ acc' l' st'):Runs P acc (⟨some dd,g,.box e n x⟩::l) ⟨tt,hh,nn⟩ acc' l' st':=Runs.step' (q_box hg hx hc hn) h
theorem s_build {z:List Value} {ps:List (Nat × Nat × Operand)} {cs:List AV} (hg:gOK ⟨tt,hh,nn⟩ g) (hf:fillA (z.map .lit) (ps.map fun p=>(p.1,p.2.1,ev ⟨tt,hh,nn⟩ p.2.2))=some cs) (h:Runs P (⟨⟨some dd,g,.build z ps⟩,.agg cs,[],[],0⟩::acc) l ⟨(dd,.agg cs)::tt,hh,nn⟩ acc' l' st'):Runs P acc (⟨some dd,g,.build z ps⟩::l) ⟨tt,hh,nn⟩ acc' l' st':=Runs.step' (q_build hg hf) h
theorem s_make {e:TypeId} {sz by_:Nat} {z:List Value} {lo c:Operand} {kl kc:IntKind} {L M:Int} (hg:gOK ⟨tt,hh,nn⟩ g) (hl':ev ⟨tt,hh,nn⟩ lo=.lit (.int kl L)) (hc:ev ⟨tt,hh,nn⟩ c=.lit (.int kc M)) (h0:0≤L) (h1:L≤M) (hb:(by_:Int) * M≤281474976710656) (h:Runs P (⟨⟨some dd,g,.make e sz by_ z lo c⟩,.own nn,[],[(nn,some ⟨true,false,e,sz,List.replicate L.toNat (z.map .lit)⟩)],1⟩::acc) l ⟨(dd,.own nn)::tt,(nn,some ⟨true,false,e,sz,List.replicate L.toNat (z.map .lit)⟩)::hh,nn+1⟩ acc' l' st'):Runs P acc (⟨some dd,g,.make e sz by_ z lo c⟩::l) ⟨tt,hh,nn⟩ acc' l' st':=Runs.step' (q_make hg hl' hc h0 h1 hb) h
theorem s_rowlit {e:TypeId} {sz len:Nat} {z:List Value} {ps:List (Nat × Operand)} {avs cs cs':List AV} {es:List (List AV)} (rd:List Nat) (hg:gOK ⟨tt,hh,nn⟩ g) (hv:optAll (viewN true (restr rd hh) 4) (ps.map fun p=>ev ⟨tt,hh,nn⟩ p.2)=some avs) (hf:fillA (List.replicate len (z.map .lit)).flatten ((ps.zip avs).map fun p=>(p.1.1 * sz,sz,p.2))=some cs) (hp:mapL (fun _=>none) cs=some cs') (he:chunk sz len cs'=es) (h:Runs P (⟨⟨some dd,g,.rowlit e sz len z ps⟩,.own nn,rd,[(nn,some ⟨true,false,e,sz,es⟩)],1⟩::acc) l ⟨(dd,.own nn)::tt,(nn,some ⟨true,false,e,sz,es⟩)::hh,nn+1⟩ acc' l' st'):Runs P acc (⟨some dd,g,.rowlit e sz len z ps⟩::l) ⟨tt,hh,nn⟩ acc' l' st':=Runs.step' (he ▸ q_rowlit rd hg hv hf hp) h
theorem s_append {e:TypeId} {sz by_ id:Nat} {z:List Value} {s x:Operand} {ob:OB} {av:AV} {news:List (List AV)} (rd:List Nat) (hg:gOK ⟨tt,hh,nn⟩ g) (hs:ev ⟨tt,hh,nn⟩ s=.own id) (ho:hl hh id=some ob) (hr:ob.row=true) (hro:ob.ro=false) (hsz:ob.sz=sz) (he:ob.e=e) (hx:ev ⟨tt,hh,nn⟩ x=av) (hn:srcA (restr rd hh) sz av=some news) (hb:(ob.es.length+news.length) * by_≤140737488355328) (h:Runs P (⟨⟨some dd,g,.append e sz by_ z s x⟩,.own nn,rd,[(nn,some ⟨true,false,e,sz,ob.es++news⟩),(id,none)],1⟩::acc) l ⟨(dd,.own nn)::tt,(nn,some ⟨true,false,e,sz,ob.es++news⟩)::(id,none)::hh,nn+1⟩ acc' l' st'):Runs P acc (⟨some dd,g,.append e sz by_ z s x⟩::l) ⟨tt,hh,nn⟩ acc' l' st':=Runs.step' (q_append rd hg hs ho hr hro hsz he hx hn hb) h
theorem s_appendN {e:TypeId} {sz by_:Nat} {z:List Value} {s x:Operand} {av:AV} {news:List (List AV)} (rd:List Nat) (hg:gOK ⟨tt,hh,nn⟩ g) (hs:ev ⟨tt,hh,nn⟩ s=.lit (.slice none 0 0)) (hx:ev ⟨tt,hh,nn⟩ x=av) (hn:srcA (restr rd hh) sz av=some news) (hb:news.length * by_≤140737488355328) (h:Runs P (⟨⟨some dd,g,.append e sz by_ z s x⟩,.own nn,rd,[(nn,some ⟨true,false,e,sz,news⟩)],1⟩::acc) l ⟨(dd,.own nn)::tt,(nn,some ⟨true,false,e,sz,news⟩)::hh,nn+1⟩ acc' l' st'):Runs P acc (⟨some dd,g,.append e sz by_ z s x⟩::l) ⟨tt,hh,nn⟩ acc' l' st':=Runs.step' (q_appendN rd hg hs hx hn hb) h
theorem s_storeB {n id off:Nat} {p x:Operand} {ob:OB} {av:AV} {e cs e':List AV} (hg:gOK ⟨tt,hh,nn⟩ g) (hp:ev ⟨tt,hh,nn⟩ p=.optr id 0 off) (ho:hl hh id=some ob) (hrow:ob.row=false) (hro:ob.ro=false) (he:ob.es=[e]) (hx:ev ⟨tt,hh,nn⟩ x=av) (hc:cellsA av=some cs) (hn:cs.length=n) (hle:Nat.ble (off+n) e.length=true) (he':e.take off++(cs++e.drop (off+n))=e') (h:Runs P (⟨⟨none,g,.store n p x⟩,.any,[],[(id,some { ob with es:=[e'] })],0⟩::acc) l ⟨tt,(id,some { ob with es:=[e'] })::hh,nn⟩ acc' l' st'):Runs P acc (⟨none,g,.store n p x⟩::l) ⟨tt,hh,nn⟩ acc' l' st':=Runs.step' (he' ▸ q_storeB hg hp ho hrow hro he hx hc hn hle) h
theorem s_storeR {n id i off:Nat} {p x:Operand} {ob:OB} {av av':AV} {e cs cs':List AV} (rd:List Nat) (hg:gOK ⟨tt,hh,nn⟩ g) (hp:ev ⟨tt,hh,nn⟩ p=.optr id i off) (ho:hl hh id=some ob) (hrow:ob.row=true) (hro:ob.ro=false) (he:ob.es[i]? = some e) (hx:ev ⟨tt,hh,nn⟩ x=av) (hv:viewN true (restr rd hh) 4 av=some av') (hc:cellsA av'=some cs) (hpu:mapL (fun _=>none) cs=some cs') (hn:cs.length=n) (hle:Nat.ble (off+n) e.length=true) (h:Runs P (⟨⟨none,g,.store n p x⟩,.any,rd,[(id,some { ob with es:=ob.es.set i (e.take off++(cs'++e.drop (off+n))) })],0⟩::acc) l ⟨tt,(id,some { ob with es:=ob.es.set i (e.take off++(cs'++e.drop (off+n))) })::hh,nn⟩ acc' l' st'):Runs P acc (⟨none,g,.store n p x⟩::l) ⟨tt,hh,nn⟩ acc' l' st':=Runs.step' (q_storeR rd hg hp ho hrow hro he hx hv hc hpu hn hle) h
end
theorem rrun {P:Program} {acc:List SD} {l:List AInst} {st:St} {acc':List SD} {l':List AInst} {st':St} {K:List SD→St→Prop} (h:RG P acc' l' st' K) (hR:Runs P acc l st acc' l' st':=by
 ((repeat (first
   | apply s_movL (by first|exact True.intro|rfl) (by exact rfl)
   | apply s_movS (by first|exact True.intro|rfl) (by exact rfl)
   | apply s_movA (by first|exact True.intro|rfl) (by exact rfl)
   | apply s_movO (by first|exact True.intro|rfl) (by exact rfl)
   | apply s_movP (by first|exact True.intro|rfl) (by exact rfl)
   | apply s_movE (by first|exact True.intro|rfl) (by exact rfl)
   | apply s_movT (by first|exact True.intro|rfl) (by exact rfl)
   | apply s_movF (by first|exact True.intro|rfl) (by exact rfl)
   | apply s_movX (by first|exact True.intro|rfl) (by exact rfl)
   | apply s_no (by exact rfl)
   | apply s_noN (by exact rfl)
   | apply s_add64 (by first|exact True.intro|rfl) (by exact rfl) (by exact rfl) (by omega) (by omega)
   | apply s_sub64 (by first|exact True.intro|rfl) (by exact rfl) (by exact rfl) (by omega) (by omega)
   | apply s_ltT (by first|exact True.intro|rfl) (by exact rfl) (by exact rfl) (by omega)
   | apply s_ltF (by first|exact True.intro|rfl) (by exact rfl) (by exact rfl) (by omega)
   | apply s_leT (by first|exact True.intro|rfl) (by exact rfl) (by exact rfl) (by omega)
   | apply s_leF (by first|exact True.intro|rfl) (by exact rfl) (by exact rfl) (by omega)
   | apply s_gtT (by first|exact True.intro|rfl) (by exact rfl) (by exact rfl) (by omega)
   | apply s_gtF (by first|exact True.intro|rfl) (by exact rfl) (by exact rfl) (by omega)
   | apply s_geT (by first|exact True.intro|rfl) (by exact rfl) (by exact rfl) (by omega)
   | apply s_geF (by first|exact True.intro|rfl) (by exact rfl) (by exact rfl) (by omega)
   | apply s_eqT (by first|exact True.intro|rfl) (by exact rfl) (by exact rfl) (by omega)
   | apply s_eqF (by first|exact True.intro|rfl) (by exact rfl) (by exact rfl) (by omega)
   | apply s_neT (by first|exact True.intro|rfl) (by exact rfl) (by exact rfl) (by omega)
   | apply s_neF (by first|exact True.intro|rfl) (by exact rfl) (by exact rfl) (by omega)
   | apply s_int (by first|exact True.intro|rfl) (by exact rfl) (by exact rfl) (by exact rfl)
   | apply s_div (by first|exact True.intro|rfl) (by exact rfl) (by exact rfl) (by omega)
   | apply s_rem (by first|exact True.intro|rfl) (by exact rfl) (by exact rfl) (by omega)
   | apply s_bool (by first|exact True.intro|rfl) (by exact rfl) (by exact rfl) (by exact rfl)
   | apply s_notT (by first|exact True.intro|rfl) (by exact rfl)
   | apply s_notF (by first|exact True.intro|rfl) (by exact rfl)
   | apply s_not (by first|exact True.intro|rfl) (by exact rfl)
   | apply s_pickTL (by first|exact True.intro|rfl) (by exact rfl) (by exact rfl)
   | apply s_pickFL (by first|exact True.intro|rfl) (by exact rfl) (by exact rfl)
   | apply s_pickTS (by first|exact True.intro|rfl) (by exact rfl) (by exact rfl)
   | apply s_pickFS (by first|exact True.intro|rfl) (by exact rfl) (by exact rfl)
   | apply s_pickTA (by first|exact True.intro|rfl) (by exact rfl) (by exact rfl)
   | apply s_pickFA (by first|exact True.intro|rfl) (by exact rfl) (by exact rfl)
   | apply s_pickTO (by first|exact True.intro|rfl) (by exact rfl) (by exact rfl)
   | apply s_pickFO (by first|exact True.intro|rfl) (by exact rfl) (by exact rfl)
   | apply s_pickTP (by first|exact True.intro|rfl) (by exact rfl) (by exact rfl)
   | apply s_pickFP (by first|exact True.intro|rfl) (by exact rfl) (by exact rfl)
   | apply s_pickTE (by first|exact True.intro|rfl) (by exact rfl) (by exact rfl)
   | apply s_pickFE (by first|exact True.intro|rfl) (by exact rfl) (by exact rfl)
   | apply s_pickTT (by first|exact True.intro|rfl) (by exact rfl) (by exact rfl)
   | apply s_pickFT (by first|exact True.intro|rfl) (by exact rfl) (by exact rfl)
   | apply s_pickTF (by first|exact True.intro|rfl) (by exact rfl) (by exact rfl)
   | apply s_pickFF (by first|exact True.intro|rfl) (by exact rfl) (by exact rfl)
   | apply s_pickTX (by first|exact True.intro|rfl) (by exact rfl) (by exact rfl)
   | apply s_pickFX (by first|exact True.intro|rfl) (by exact rfl) (by exact rfl)
   | apply s_pickB (by first|exact True.intro|rfl) (by exact rfl) (by exact rfl) (by exact rfl)
   | apply s_conv64 (by first|exact True.intro|rfl) (by exact rfl) (by omega) (by omega)
   | apply s_conv (by first|exact True.intro|rfl) (by exact rfl)
   | apply s_faddr (by first|exact True.intro|rfl) (by exact rfl)
   | apply s_faddrE (by first|exact True.intro|rfl) (by exact rfl)
   | apply s_load1 (by first|exact True.intro|rfl) (by exact rfl) (by exact rfl) (by exact rfl) (by exact rfl)
   | apply s_loadA (by first|exact True.intro|rfl) (by exact rfl) (by exact rfl) (by exact rfl) (by exact rfl)
   | apply s_loadG (by first|exact True.intro|rfl) (by exact rfl) (by exact rfl) (by exact rfl) (by exact rfl)
   | apply s_loadE1 (by first|exact True.intro|rfl) (by exact rfl) (by first|assumption|rfl) (by exact rfl)
   | apply s_loadEA (by first|exact True.intro|rfl) (by exact rfl) (by first|assumption|rfl) (by exact rfl)
   | apply s_loadEG (by first|exact True.intro|rfl) (by exact rfl) (by first|assumption|rfl) (by exact rfl)
   | apply s_extract (by first|exact True.intro|rfl) (by exact rfl) (by exact rfl)
   | apply s_field1 (by first|exact True.intro|rfl) (by exact rfl) (by exact rfl)
   | apply s_fieldG (by first|exact True.intro|rfl) (by exact rfl) (by exact rfl)
   | apply s_len (by first|exact True.intro|rfl) (by exact rfl) (by first|assumption|rfl)
   | apply s_lenN (by first|exact True.intro|rfl) (by exact rfl)
   | apply s_lenO (by first|exact True.intro|rfl) (by exact rfl) (by exact rfl) (by exact rfl) (by first|assumption|rfl)
   | apply s_slen (by first|exact True.intro|rfl) (by exact rfl)
   | apply s_iaddr (by first|exact True.intro|rfl) (by exact rfl) (by exact rfl) (by omega) (by first|omega|assumption)
   | apply s_iaddrO (by first|exact True.intro|rfl) (by exact rfl) (by exact rfl) (by exact rfl) (by exact rfl) (by exact rfl) (by omega) (by first|omega|(dsimp only; omega))
   | apply s_nilckP (by first|exact True.intro|rfl) (by exact rfl)
   | apply s_nilckE (by first|exact True.intro|rfl) (by exact rfl)
   | apply s_nilckF (by first|exact True.intro|rfl) (by exact rfl)
   | apply s_mkfn (by first|exact True.intro|rfl)
   | apply s_alloc (by first|exact True.intro|rfl)
   | apply s_box (by first|exact True.intro|rfl) (by exact rfl) (by exact rfl) (by exact rfl)
   | apply s_build (by first|exact True.intro|rfl) (by exact rfl)
   | apply s_storeB (by first|exact True.intro|rfl) (by exact rfl) (by exact rfl) (by exact rfl) (by exact rfl) (by exact rfl) (by exact rfl) (by exact rfl) (by exact rfl) (by exact rfl) (by exact rfl))); exact Runs.refl _ _ _)):RG P acc l st K:=rg_runs hR h
theorem aw_R {P:Program} {C:Ctx} {Q:Exit→St→Prop} {st:St} {d:Bool} {l:List AInst} {free:List (Nat × Nat)} {acc:List SD} {st':St} (hQ:Q .normal st') (hR:Runs P [] l st acc [] st':=by
 ((repeat (first
   | apply s_movL (by first|exact True.intro|rfl) (by exact rfl)
   | apply s_movS (by first|exact True.intro|rfl) (by exact rfl)
   | apply s_movA (by first|exact True.intro|rfl) (by exact rfl)
   | apply s_movO (by first|exact True.intro|rfl) (by exact rfl)
   | apply s_movP (by first|exact True.intro|rfl) (by exact rfl)
   | apply s_movE (by first|exact True.intro|rfl) (by exact rfl)
   | apply s_movT (by first|exact True.intro|rfl) (by exact rfl)
   | apply s_movF (by first|exact True.intro|rfl) (by exact rfl)
   | apply s_movX (by first|exact True.intro|rfl) (by exact rfl)
   | apply s_no (by exact rfl)
   | apply s_noN (by exact rfl)
   | apply s_add64 (by first|exact True.intro|rfl) (by exact rfl) (by exact rfl) (by omega) (by omega)
   | apply s_sub64 (by first|exact True.intro|rfl) (by exact rfl) (by exact rfl) (by omega) (by omega)
   | apply s_ltT (by first|exact True.intro|rfl) (by exact rfl) (by exact rfl) (by omega)
   | apply s_ltF (by first|exact True.intro|rfl) (by exact rfl) (by exact rfl) (by omega)
   | apply s_leT (by first|exact True.intro|rfl) (by exact rfl) (by exact rfl) (by omega)
   | apply s_leF (by first|exact True.intro|rfl) (by exact rfl) (by exact rfl) (by omega)
   | apply s_gtT (by first|exact True.intro|rfl) (by exact rfl) (by exact rfl) (by omega)
   | apply s_gtF (by first|exact True.intro|rfl) (by exact rfl) (by exact rfl) (by omega)
   | apply s_geT (by first|exact True.intro|rfl) (by exact rfl) (by exact rfl) (by omega)
   | apply s_geF (by first|exact True.intro|rfl) (by exact rfl) (by exact rfl) (by omega)
   | apply s_eqT (by first|exact True.intro|rfl) (by exact rfl) (by exact rfl) (by omega)
   | apply s_eqF (by first|exact True.intro|rfl) (by exact rfl) (by exact rfl) (by omega)
   | apply s_neT (by first|exact True.intro|rfl) (by exact rfl) (by exact rfl) (by omega)
   | apply s_neF (by first|exact True.intro|rfl) (by exact rfl) (by exact rfl) (by omega)
   | apply s_int (by first|exact True.intro|rfl) (by exact rfl) (by exact rfl) (by exact rfl)
   | apply s_div (by first|exact True.intro|rfl) (by exact rfl) (by exact rfl) (by omega)
   | apply s_rem (by first|exact True.intro|rfl) (by exact rfl) (by exact rfl) (by omega)
   | apply s_bool (by first|exact True.intro|rfl) (by exact rfl) (by exact rfl) (by exact rfl)
   | apply s_notT (by first|exact True.intro|rfl) (by exact rfl)
   | apply s_notF (by first|exact True.intro|rfl) (by exact rfl)
   | apply s_not (by first|exact True.intro|rfl) (by exact rfl)
   | apply s_pickTL (by first|exact True.intro|rfl) (by exact rfl) (by exact rfl)
   | apply s_pickFL (by first|exact True.intro|rfl) (by exact rfl) (by exact rfl)
   | apply s_pickTS (by first|exact True.intro|rfl) (by exact rfl) (by exact rfl)
   | apply s_pickFS (by first|exact True.intro|rfl) (by exact rfl) (by exact rfl)
   | apply s_pickTA (by first|exact True.intro|rfl) (by exact rfl) (by exact rfl)
   | apply s_pickFA (by first|exact True.intro|rfl) (by exact rfl) (by exact rfl)
   | apply s_pickTO (by first|exact True.intro|rfl) (by exact rfl) (by exact rfl)
   | apply s_pickFO (by first|exact True.intro|rfl) (by exact rfl) (by exact rfl)
   | apply s_pickTP (by first|exact True.intro|rfl) (by exact rfl) (by exact rfl)
   | apply s_pickFP (by first|exact True.intro|rfl) (by exact rfl) (by exact rfl)
   | apply s_pickTE (by first|exact True.intro|rfl) (by exact rfl) (by exact rfl)
   | apply s_pickFE (by first|exact True.intro|rfl) (by exact rfl) (by exact rfl)
   | apply s_pickTT (by first|exact True.intro|rfl) (by exact rfl) (by exact rfl)
   | apply s_pickFT (by first|exact True.intro|rfl) (by exact rfl) (by exact rfl)
   | apply s_pickTF (by first|exact True.intro|rfl) (by exact rfl) (by exact rfl)
   | apply s_pickFF (by first|exact True.intro|rfl) (by exact rfl) (by exact rfl)
   | apply s_pickTX (by first|exact True.intro|rfl) (by exact rfl) (by exact rfl)
   | apply s_pickFX (by first|exact True.intro|rfl) (by exact rfl) (by exact rfl)
   | apply s_pickB (by first|exact True.intro|rfl) (by exact rfl) (by exact rfl) (by exact rfl)
   | apply s_conv64 (by first|exact True.intro|rfl) (by exact rfl) (by omega) (by omega)
   | apply s_conv (by first|exact True.intro|rfl) (by exact rfl)
   | apply s_faddr (by first|exact True.intro|rfl) (by exact rfl)
   | apply s_faddrE (by first|exact True.intro|rfl) (by exact rfl)
   | apply s_load1 (by first|exact True.intro|rfl) (by exact rfl) (by exact rfl) (by exact rfl) (by exact rfl)
   | apply s_loadA (by first|exact True.intro|rfl) (by exact rfl) (by exact rfl) (by exact rfl) (by exact rfl)
   | apply s_loadG (by first|exact True.intro|rfl) (by exact rfl) (by exact rfl) (by exact rfl) (by exact rfl)
   | apply s_loadE1 (by first|exact True.intro|rfl) (by exact rfl) (by first|assumption|rfl) (by exact rfl)
   | apply s_loadEA (by first|exact True.intro|rfl) (by exact rfl) (by first|assumption|rfl) (by exact rfl)
   | apply s_loadEG (by first|exact True.intro|rfl) (by exact rfl) (by first|assumption|rfl) (by exact rfl)
   | apply s_extract (by first|exact True.intro|rfl) (by exact rfl) (by exact rfl)
   | apply s_field1 (by first|exact True.intro|rfl) (by exact rfl) (by exact rfl)
   | apply s_fieldG (by first|exact True.intro|rfl) (by exact rfl) (by exact rfl)
   | apply s_len (by first|exact True.intro|rfl) (by exact rfl) (by first|assumption|rfl)
   | apply s_lenN (by first|exact True.intro|rfl) (by exact rfl)
   | apply s_lenO (by first|exact True.intro|rfl) (by exact rfl) (by exact rfl) (by exact rfl) (by first|assumption|rfl)
   | apply s_slen (by first|exact True.intro|rfl) (by exact rfl)
   | apply s_iaddr (by first|exact True.intro|rfl) (by exact rfl) (by exact rfl) (by omega) (by first|omega|assumption)
   | apply s_iaddrO (by first|exact True.intro|rfl) (by exact rfl) (by exact rfl) (by exact rfl) (by exact rfl) (by exact rfl) (by omega) (by first|omega|(dsimp only; omega))
   | apply s_nilckP (by first|exact True.intro|rfl) (by exact rfl)
   | apply s_nilckE (by first|exact True.intro|rfl) (by exact rfl)
   | apply s_nilckF (by first|exact True.intro|rfl) (by exact rfl)
   | apply s_mkfn (by first|exact True.intro|rfl)
   | apply s_alloc (by first|exact True.intro|rfl)
   | apply s_box (by first|exact True.intro|rfl) (by exact rfl) (by exact rfl) (by exact rfl)
   | apply s_build (by first|exact True.intro|rfl) (by exact rfl)
   | apply s_storeB (by first|exact True.intro|rfl) (by exact rfl) (by exact rfl) (by exact rfl) (by exact rfl) (by exact rfl) (by exact rfl) (by exact rfl) (by exact rfl) (by exact rfl) (by exact rfl))); exact Runs.refl _ _ _)) (hi:(bif d then indepOK acc.reverse free else true)=true:=by rfl):AW P C (.ops d l free) Q st:=aw_reg (rg_runs hR (rg_nil ⟨hi,hQ⟩))
structure Left (p:Prop):Prop where
 out:p
theorem walk {P:Program} {C:Ctx} {Q:Exit→St→Prop} {st:St} {c:ACode} {G:Prop} (hG:G) (h:Left G→AW P C c Q st:=by
 (intro hG; repeat (first|refine aw_seq ?_|refine aw_block ?_|refine aw_skip ?_|refine aw_exit ?_|refine aw_ret ?_|refine aw_cond_t rfl ?_|refine aw_cond_f rfl ?_|refine aw_R ?_)
  exact hG.out)):AW P C c Q st:=h ⟨hG⟩
section
variable {P:Program} {tt:List (Nat × AV)} {hh:Hp} {nn dd:Nat} {g:Option (Nat × Bool)} {l:List AInst} {acc:List SD} {K:List SD→St→Prop}
theorem r_callX {fo:Operand} {args:List Operand} {f:FuncId} {fi ca avs avs':List AV} {r:AV} (ro:Bool) (rd:List Nat) (hc:ACalls P f avs' r) (h:RG P (⟨⟨some dd,g,.call fo args⟩,r,rd,[],0⟩::acc) l ⟨(dd,r)::tt,hh,nn⟩ K) (hg:gOK ⟨tt,hh,nn⟩ g:=by first|exact True.intro|rfl) (hf:ev ⟨tt,hh,nn⟩ fo=.fn f fi ca:=by rfl) (hv:optAll (viewN ro (restr (rd) hh) 4) (fi++(args.map (ev ⟨tt,hh,nn⟩)++ca))=some avs:=by rfl) (hs:SubL avs avs':=by (repeat (first|exact SubL.nil|refine SubL.cons (by first|exact Sub.refl _|exact Sub.nil _|exact Sub.any _|(refine Sub.agg ?_; repeat (first|exact SubL.nil|refine SubL.cons (by first|exact Sub.refl _|exact Sub.nil _) ?_))) ?_))) (hro:(ro || scal r)=true:=by rfl):RG P acc (⟨some dd,g,.call fo args⟩::l) ⟨tt,hh,nn⟩ K:=RG.step (q_call ro rd hg hf hv hs hc hro) h
theorem r_call {fo:Operand} {args:List Operand} {f:FuncId} {fi ca avs avs':List AV} {r:AV}   (hc:ACalls P f avs' r) (h:RG P (⟨⟨some dd,g,.call fo args⟩,r,[],[],0⟩::acc) l ⟨(dd,r)::tt,hh,nn⟩ K) (hg:gOK ⟨tt,hh,nn⟩ g:=by first|exact True.intro|rfl) (hf:ev ⟨tt,hh,nn⟩ fo=.fn f fi ca:=by rfl) (hv:optAll (viewN true (restr ([]) hh) 4) (fi++(args.map (ev ⟨tt,hh,nn⟩)++ca))=some avs:=by rfl) (hs:SubL avs avs':=by (repeat (first|exact SubL.nil|refine SubL.cons (by first|exact Sub.refl _|exact Sub.nil _|exact Sub.any _|(refine Sub.agg ?_; repeat (first|exact SubL.nil|refine SubL.cons (by first|exact Sub.refl _|exact Sub.nil _) ?_))) ?_))) (hro:(true || scal r)=true:=by rfl):RG P acc (⟨some dd,g,.call fo args⟩::l) ⟨tt,hh,nn⟩ K:=RG.step (q_call true [] hg hf hv hs hc hro) h
theorem r_rowlit {e:TypeId} {sz len:Nat} {z:List Value} {ps:List (Nat × Operand)} {avs cs cs':List AV} {es:List (List AV)}   (h:RG P (⟨⟨some dd,g,.rowlit e sz len z ps⟩,.own nn,[],[(nn,some ⟨true,false,e,sz,es⟩)],1⟩::acc) l ⟨(dd,.own nn)::tt,(nn,some ⟨true,false,e,sz,es⟩)::hh,nn+1⟩ K) (hg:gOK ⟨tt,hh,nn⟩ g:=by first|exact True.intro|rfl) (hv:optAll (viewN true (restr [] hh) 4) (ps.map fun p=>ev ⟨tt,hh,nn⟩ p.2)=some avs:=by rfl) (hf:fillA (List.replicate len (z.map .lit)).flatten ((ps.zip avs).map fun p=>(p.1.1 * sz,sz,p.2))=some cs:=by rfl) (hp:mapL (fun _=>none) cs=some cs':=by rfl) (he:chunk sz len cs'=es:=by rfl):RG P acc (⟨some dd,g,.rowlit e sz len z ps⟩::l) ⟨tt,hh,nn⟩ K:=RG.step (he ▸ q_rowlit [] hg hv hf hp) h
theorem r_append {e:TypeId} {sz by_ id:Nat} {z:List Value} {s x:Operand} {ob:OB} {av:AV} {news:List (List AV)}  (hb:(ob.es.length+news.length) * by_≤140737488355328) (h:RG P (⟨⟨some dd,g,.append e sz by_ z s x⟩,.own nn,[],[(nn,some ⟨true,false,e,sz,ob.es++news⟩),(id,none)],1⟩::acc) l ⟨(dd,.own nn)::tt,(nn,some ⟨true,false,e,sz,ob.es++news⟩)::(id,none)::hh,nn+1⟩ K) (hg:gOK ⟨tt,hh,nn⟩ g:=by first|exact True.intro|rfl) (hs:ev ⟨tt,hh,nn⟩ s=.own id:=by rfl) (ho:hl hh id=some ob:=by rfl) (hr:ob.row=true:=by rfl) (hro:ob.ro=false:=by rfl) (hsz:ob.sz=sz:=by rfl) (he:ob.e=e:=by rfl) (hx:ev ⟨tt,hh,nn⟩ x=av:=by rfl) (hn:srcA (restr [] hh) sz av=some news:=by rfl):RG P acc (⟨some dd,g,.append e sz by_ z s x⟩::l) ⟨tt,hh,nn⟩ K:=RG.step (q_append [] hg hs ho hr hro hsz he hx hn hb) h
theorem r_appendN {e:TypeId} {sz by_:Nat} {z:List Value} {s x:Operand} {av:AV} {news:List (List AV)}  (hb:news.length * by_≤140737488355328) (h:RG P (⟨⟨some dd,g,.append e sz by_ z s x⟩,.own nn,[],[(nn,some ⟨true,false,e,sz,news⟩)],1⟩::acc) l ⟨(dd,.own nn)::tt,(nn,some ⟨true,false,e,sz,news⟩)::hh,nn+1⟩ K) (hg:gOK ⟨tt,hh,nn⟩ g:=by first|exact True.intro|rfl) (hs:ev ⟨tt,hh,nn⟩ s=.lit (.slice none 0 0):=by rfl) (hx:ev ⟨tt,hh,nn⟩ x=av:=by rfl) (hn:srcA (restr [] hh) sz av=some news:=by rfl):RG P acc (⟨some dd,g,.append e sz by_ z s x⟩::l) ⟨tt,hh,nn⟩ K:=RG.step (q_appendN [] hg hs hx hn hb) h
theorem r_make {e:TypeId} {sz by_:Nat} {z:List Value} {lo c:Operand} {kl kc:IntKind} {L M:Int} (h0:0≤L) (h1:L≤M) (hb:(by_:Int) * M≤281474976710656) (h:RG P (⟨⟨some dd,g,.make e sz by_ z lo c⟩,.own nn,[],[(nn,some ⟨true,false,e,sz,List.replicate L.toNat (z.map .lit)⟩)],1⟩::acc) l ⟨(dd,.own nn)::tt,(nn,some ⟨true,false,e,sz,List.replicate L.toNat (z.map .lit)⟩)::hh,nn+1⟩ K) (hg:gOK ⟨tt,hh,nn⟩ g:=by first|exact True.intro|rfl) (hl':ev ⟨tt,hh,nn⟩ lo=.lit (.int kl L):=by rfl) (hc:ev ⟨tt,hh,nn⟩ c=.lit (.int kc M):=by rfl):RG P acc (⟨some dd,g,.make e sz by_ z lo c⟩::l) ⟨tt,hh,nn⟩ K:=RG.step (q_make hg hl' hc h0 h1 hb) h
theorem r_eqvS {t e:TypeId} {x y:Operand} {a:Option Addr} {n c:Nat} (hu:P.underlying t=some (.slice e)) (h:RG P (⟨⟨some dd,g,.eqv t false x y⟩,.lit (.bool a.isNone),[],[],0⟩::acc) l ⟨(dd,.lit (.bool a.isNone))::tt,hh,nn⟩ K) (hg:gOK ⟨tt,hh,nn⟩ g:=by first|exact True.intro|rfl) (hx:ev ⟨tt,hh,nn⟩ x=.lit (.slice a n c):=by rfl) (hy:ev ⟨tt,hh,nn⟩ y=.lit (.slice none 0 0):=by rfl):RG P acc (⟨some dd,g,.eqv t false x y⟩::l) ⟨tt,hh,nn⟩ K:=RG.step (q_eqvS hu hg hx hy) h
theorem r_copy {sz id:Nat} {n:Int} {x y:Operand} {ob:OB} {av:AV} {news:List (List AV)}  (hle:news.length≤ob.es.length) (h:RG P (⟨⟨some dd,g,.copy sz x y⟩,.lit (.int .i64 n),[],[(id,some { ob with es:=news++ob.es.drop news.length })],0⟩::acc) l ⟨(dd,.lit (.int .i64 n))::tt,(id,some { ob with es:=news++ob.es.drop news.length })::hh,nn⟩ K) (hg:gOK ⟨tt,hh,nn⟩ g:=by first|exact True.intro|rfl) (hs:ev ⟨tt,hh,nn⟩ x=.own id:=by rfl) (ho:hl hh id=some ob:=by rfl) (hrow:ob.row=true:=by rfl) (hro:ob.ro=false:=by rfl) (hsz:ob.sz=sz:=by rfl) (hx:ev ⟨tt,hh,nn⟩ y=av:=by rfl) (hn:srcA (restr [] hh) sz av=some news:=by rfl) (hk:(news.length:Int)=n:=by rfl):RG P acc (⟨some dd,g,.copy sz x y⟩::l) ⟨tt,hh,nn⟩ K:=RG.step (hk ▸ q_copy [] hg hs ho hrow hro hsz hx hn hle) h
end
section
variable {P:Program} {st:St} {d:Option Nat} {g:Option (Nat × Bool)}
def bndA (st:St) (x:Option Operand) (dflt:Int) (z:Int):Prop:=match x with
 | none=>z=dflt
 | some o=>∃ k,ev st o=.lit (.int k z)
theorem sliceBound_run {w:World} {k:IntKind} {z:Int} {y:Nat} {c:BoundsCode} (h0:0≤z) (h1:z≤y):(Instr.sliceBound (.int k z) y c).run P w=.ok z.toNat w:=by
 simp only [Instr.sliceBound,asIntOf,Sem.run_bind,Sem.run_pure,Result.andThen_ok,if_pos (And.intro h0 h1)]
theorem AtA.part {im:Nat→Prop} {w:World} {a:Option Addr} {sz:Nat} {es:List (List AV)} {vs:List Value} (hat:AtA im w a vs) (hrd:RdIE im w sz es vs) (l h:Nat) (hlh:l≤h) (hh:h≤es.length) {m:Nat} (hm:l=m→h=l) :
 AtA im w (if m=l then a else a.map (·.add (l * sz))) ((vs.drop (l * sz)).take ((h - l) * sz)):=by
 intro i v hv
 rw [List.getElem?_take] at hv
 split at hv
 ·rename_i hi
  rw [List.getElem?_drop] at hv
  obtain ⟨b,off,rfl,hb,hc⟩:=hat _ v hv
  by_cases hml:m=l
  ·have:=hm hml.symm
   rw [this,Nat.sub_self,Nat.zero_mul] at hi
   omega
  ·rw [if_neg hml]
   exact ⟨b,off+l * sz,by simp only [Option.map_some,addr_add],hb,by rw [Nat.add_assoc]; exact hc⟩
 ·cases hv
theorem RdIE.drop {im:Nat→Prop} {w:World} {sz:Nat}:∀ (n:Nat) {es:List (List AV)} {vs:List Value},RdIE im w sz es vs→RdIE im w sz (es.drop n) (vs.drop (n * sz))
 | 0,es,vs,h=>by simpa using h
 | n+1,[],vs,h=>by simp only [RdIE] at h; subst h; simp [RdIE]
 | n+1,e::es,vs,h=>by
   simp only [RdIE] at h
   obtain ⟨x,rest,rfl,h1,h2,h3⟩:=h
   have:(x++rest).drop ((n+1) * sz)=rest.drop (n * sz):=by
    rw [Nat.add_mul,Nat.one_mul,Nat.add_comm,← List.drop_drop]
    congr 1
    rw [← h1]; simp
   rw [this]; exact RdIE.drop n h3
theorem RdIE.take {im:Nat→Prop} {w:World} {sz:Nat}:∀ (n:Nat) {es:List (List AV)} {vs:List Value},RdIE im w sz es vs→RdIE im w sz (es.take n) (vs.take (n * sz))
 | 0,es,vs,h=>by simp [RdIE]
 | n+1,[],vs,h=>by simp only [RdIE] at h; subst h; simp [RdIE]
 | n+1,e::es,vs,h=>by
   simp only [RdIE] at h
   obtain ⟨x,rest,rfl,h1,h2,h3⟩:=h
   simp only [List.take_succ_cons,RdIE]
   refine ⟨x,rest.take (n * sz),?_,h1,h2,RdIE.take n h3⟩
   rw [Nat.add_mul,Nat.one_mul,Nat.add_comm,← h1,List.take_length_add_append]
theorem sliceAt_run {w:World} {t e:TypeId} {gg:Bool} {sz:Nat} (hu:P.underlying t=some (.slice e)) (hs:szOf P e=some (gg,sz)) {a:Option Addr} {len cap:Nat} {lo hi mx:Option Value} {l h m:Nat}
 (hm:(match mx with|none=>m=cap|some v=>∃ k,v=.int k m∧m≤cap)) (hh:(match hi with|none=>h=len|some v=>∃ k,v=.int k h)) (hl:(match lo with|none=>l=0|some v=>∃ k,v=.int k l)) (h1:l≤h) (h2:h≤m) (h3:h≤cap) (h4:mx.isSome=true→hi.isSome=true) :
 (Instr.sliceAt t (.slice a len cap) lo hi mx).run P w=.ok (.slice (if m=l then a else a.map (·.add (l * sz))) (h - l) (m - l)) w:=by
 obtain ⟨dd,i,k1,k2,k3,_⟩:=szOf_spec hs
 have hsz:(sizeOf e).run P w=.ok sz w:=by simp [sizeOf,typeInfo,k2,k3]
 have hb:(Instr.sliceBounds true len cap lo hi mx).run P w=.ok (l,h,m) w:=by
  cases mx with
  | none =>
    simp only at hm; subst hm
    cases hi with
    | none =>
      simp only at hh; subst hh
      cases lo with
      | none=>simp only at hl; subst hl; rfl
      | some v =>
        obtain ⟨k,rfl⟩:=hl
        simp only [Instr.sliceBounds,Sem.run_bind,Sem.run_pure,Result.andThen_ok,sliceBound_run (Int.natCast_nonneg l) (Int.ofNat_le.2 h1),Int.toNat_natCast]
    | some vh =>
      obtain ⟨kh,rfl⟩:=hh
      cases lo with
      | none=>simp only at hl; subst hl; simp only [Instr.sliceBounds,Sem.run_bind,Sem.run_pure,Result.andThen_ok,sliceBound_run (Int.natCast_nonneg h) (Int.ofNat_le.2 h3),Int.toNat_natCast]
      | some v =>
        obtain ⟨k,rfl⟩:=hl
        simp only [Instr.sliceBounds,Sem.run_bind,Sem.run_pure,Result.andThen_ok,sliceBound_run (Int.natCast_nonneg h) (Int.ofNat_le.2 h3),sliceBound_run (Int.natCast_nonneg l) (Int.ofNat_le.2 h1),Int.toNat_natCast]
  | some vm =>
    obtain ⟨km,rfl,hmc⟩:=hm
    cases hi with
    | none=>simp at h4
    | some vh =>
      obtain ⟨kh,rfl⟩:=hh
      cases lo with
      | none=>simp only at hl; subst hl; simp only [Instr.sliceBounds,Sem.run_bind,Sem.run_pure,Result.andThen_ok,sliceBound_run (Int.natCast_nonneg m) (Int.ofNat_le.2 hmc),sliceBound_run (Int.natCast_nonneg h) (Int.ofNat_le.2 h2),Int.toNat_natCast]
      | some v =>
        obtain ⟨k,rfl⟩:=hl
        simp only [Instr.sliceBounds,Sem.run_bind,Sem.run_pure,Result.andThen_ok,sliceBound_run (Int.natCast_nonneg m) (Int.ofNat_le.2 hmc),sliceBound_run (Int.natCast_nonneg h) (Int.ofNat_le.2 h2),sliceBound_run (Int.natCast_nonneg l) (Int.ofNat_le.2 h1),Int.toNat_natCast]
 simp only [Instr.sliceAt,Instr.slice,Sem.run_bind,run_underlying hu w,Result.andThen_ok,hb,hsz,Sem.run_pure]
theorem q_slice {sz:Nat} {x:Operand} {lo hi mx:Option Operand} {es:List (List AV)} {l h:Nat} (hg:gOK st g) (hx:ev st x=.sl sz es) (hl:bndA st lo 0 l) (hh:bndA st hi es.length h) (hm:mx=none∨(mx=hi∧hi.isSome=true)) (h1:l≤h) (h2:h≤es.length) :
 Step P st ⟨⟨d,g,.slice sz x lo hi mx⟩,.sl sz ((es.drop l).take (h - l)),[],[],0⟩ :=
  step_val [] hg fun o C E ac w sx hlow R hr hh'=>by
 have hv:=hr x (by simp [AOp.opds])
 rw [hx] at hv
 obtain ⟨a,cap,vs,hv,hle,hnil,hmax,hat,h1s,hrd⟩:=hv
 have vint:∀ {y:Option Operand} {dflt z:Int},(∀ o,y=some o→o ∈ (AOp.slice sz x lo hi mx).opds)→bndA st y dflt z→(y=none∧z=dflt)∨(∃ k,y.map ac.eval=some (.int k z)):=fun {y dflt z} hy hb=>by
  cases y with
  | none=>exact .inl ⟨rfl,hb⟩
  | some o =>
    obtain ⟨k,hk⟩:=hb
    exact .inr ⟨k,by simp only [Option.map_some]; rw [lit_eval (hr o (hy o rfl)) hk]⟩
 obtain ⟨dst,o,ty,pos,after,guard⟩:=o
 obtain ⟨t,e,gg,rfl,het,hs⟩:=low_spec hlow
 have hlo:=vint (y:=lo) (fun o ho=>by subst ho; simp [AOp.opds,oL]) hl
 have hhi:=vint (y:=hi) (fun o ho=>by subst ho; simp [AOp.opds,oL]) hh
 obtain ⟨m,hmm,hhm,hmc,hmcap,hiso⟩:∃ m:Nat,(match mx.map ac.eval with|none=>m=cap|some v=>∃ k,v=.int k m∧m≤cap)∧h≤m∧(m=l→h=l)∧m≤cap∧((mx.map ac.eval).isSome=true→(hi.map ac.eval).isSome=true):=by
  rcases hm with rfl|⟨rfl,his⟩
  ·exact ⟨cap,rfl,by omega,fun e=>by omega,Nat.le_refl _,by simp⟩
  ·rcases hhi with ⟨h0,_⟩|⟨k,hk⟩
   ·rw [h0] at his; cases his
   ·exact ⟨h,by rw [hk]; exact ⟨k,rfl,by omega⟩,Nat.le_refl _,fun e=>e,by omega,by simp⟩
 have hrun:=sliceAt_run (P:=P) (w:=w) (a:=a) (len:=es.length) (cap:=cap) (lo:=lo.map ac.eval) (hi:=hi.map ac.eval) (mx:=mx.map ac.eval) (l:=l) (h:=h) (m:=m) (elemsOf_spec het) hs hmm
  (by rcases hhi with ⟨h0,e⟩|⟨k,hk⟩
      ·rw [h0]; simp only [Option.map_none]; omega
      ·rw [hk]; exact ⟨k,rfl⟩)
  (by rcases hlo with ⟨h0,e⟩|⟨k,hk⟩
      ·rw [h0]; simp only [Option.map_none]; omega
      ·rw [hk]; exact ⟨k,rfl⟩) h1 hhm (by omega) hiso
 have hlen:((es.drop l).take (h - l)).length=h - l:=by simp; omega
 refine ⟨.slice (if m=l then a else a.map (·.add (l * sz))) (h - l) (m - l),by simp only [execOp,hv,Sem.run_bind,hrun,Result.andThen_ok,Sem.run_pure],_,_,_,by rw [hlen],by omega,?_,by omega,hat.part hrd l h h1 h2 (fun e=>(hmc e.symm)),fun u hu=>h1s u (List.mem_of_mem_drop (List.mem_of_mem_take hu)),(hrd.drop l).take (h - l)⟩
 intro hn
 by_cases hml:m=l
 ·omega
 ·rw [if_neg hml] at hn
  have ha:a=none:=by cases a<;>simp at hn ⊢
  have:=hnil ha
  omega
end
section
variable {P:Program} {tt:List (Nat × AV)} {hh:Hp} {nn dd:Nat} {g:Option (Nat × Bool)} {l:List AInst} {acc:List SD} {K:List SD→St→Prop}
theorem r_slice {sz:Nat} {x:Operand} {lo hi mx:Option Operand} {es:List (List AV)} (a b:Nat) (h1:a≤b) (h2:b≤es.length) (h:RG P (⟨⟨some dd,g,.slice sz x lo hi mx⟩,.sl sz ((es.drop a).take (b - a)),[],[],0⟩::acc) l ⟨(dd,.sl sz ((es.drop a).take (b - a)))::tt,hh,nn⟩ K)
 (hg:gOK ⟨tt,hh,nn⟩ g:=by first|exact True.intro|rfl) (hx:ev ⟨tt,hh,nn⟩ x=.sl sz es:=by rfl) (hl:bndA ⟨tt,hh,nn⟩ lo 0 a:=by first|rfl|exact ⟨_,rfl⟩) (hh':bndA ⟨tt,hh,nn⟩ hi es.length b:=by first|rfl|exact ⟨_,rfl⟩) (hm:mx=none∨(mx=hi∧hi.isSome=true):=by first|exact .inl rfl|exact .inr ⟨rfl,rfl⟩) :
 RG P acc (⟨some dd,g,.slice sz x lo hi mx⟩::l) ⟨tt,hh,nn⟩ K:=RG.step (q_slice hg hx hl hh' hm h1 h2) h
end
section
variable {P:Program} {C:Ctx} {Q:Exit→St→Prop} {st:St}
def AWR (P:Program) (C:Ctx) (c:ACode) (Q:Exit→St→Prop):Nat→St→Prop
 | 0,_=>False
 | n+1,s=>AW P C c (thenQ (fun s'=>AWR P C c Q n s') Q) s
theorem aw_unroll {c:ACode} (n:Nat) (h:AWR P C c Q n st):AW P C (.loop c) Q st:=by
 intro code hc E a w hR
 cases code with
 | loop b =>
   simp only [lowerC] at hc
   split at hc
   ·rename_i b' hb
    simp only [Option.some.injEq,ACode.loop.injEq] at hc
    subst hc
    refine wp_loop_rounds n ?_
    have key:∀ n (s:St) E a w,AWR P C b' Q n s→Rel C E s a w→Code.rounds P b (liftQ C Q) n a w:=by
     intro n
     induction n with
     | zero=>intro s E a w h _; exact h.elim
     | succ n ih =>
       intro s E a w h hR
       rw [rounds_succ]
       refine wp_mono (h b hb E a w hR) ?_
       rintro e a' w' ⟨E',s',h1,h2⟩
       cases e with
       | normal=>exact ih s' E' a' w' h1 h2
       | _=>exact ⟨E',s',h1,h2⟩
    exact key n st E a w h hR
   ·cases hc
 | region id ops draw=>obtain ⟨_,_,_,e⟩:=lower_region hc; cases e
 | seq a b=>simp only [lowerC] at hc; split at hc<;>cases hc
 | cond c a b=>simp only [lowerC] at hc; split at hc<;>cases hc
 | block id a=>simp only [lowerC] at hc; split at hc<;>cases hc
 | _=>simp [lowerC] at hc
theorem awr_one {c:ACode} {n:Nat} (h:AW P C c (thenQ (fun s'=>AWR P C c Q n s') Q) st):AWR P C c Q (n+1) st:=h
theorem aw_freeze {c:ACode} (id:Nat) {o:OB} (ho:hl st.h id=some o) (h:AW P C c Q { st with h:=(id,some { o with ro:=true })::st.h }):AW P C c Q st:=by
 refine aw_weak (fun E a w R => ?_) h
 let E':Env:={ E with im:=fun b=>E.im b∨(E.live id∧blkOf (E.val id)=some b) }
 have hlv:∀ k,E.live k→E'.live k∧E'.val k=E.val k∧E'.sz k=E.sz k:=fun k h=>⟨h,rfl,rfl⟩
 have him:∀ b,E.im b→E'.im b:=fun b h=>.inl h
 have hw:∀ b,E.im b→w.heap[b]? = w.heap[b]? := fun _ _=>rfl
 refine ⟨E',R.defers,R.size,fun n=>Rd.mono hlv him hw _ _ (R.tm n),⟨?_,?_,?_,?_⟩,R.nx,?_,R.ext,fun b hb=>.inl (R.imx b hb),?_,R.frm⟩
 ·intro k ob hk hh
  have old:∀ o',hl st.h k=some o'→obOK E' w k o':=fun o' ho'=>(R.heap.ob k o' hk ho').mono ⟨rfl,rfl⟩ hlv him hw (fun _ _=>rfl)
  rcases hl_new hh with ⟨rfl,e⟩|⟨hne,p1⟩
  ·simp only [Option.some.injEq] at e; subst e
   exact old o ho
  ·exact old ob p1
 ·intro k k' ob ob' b hk hk' hh hh' hb hb'
  have e:∀ j oj,hl ((id,some { o with ro:=true })::st.h) j=some oj→∃ oj',hl st.h j=some oj':=fun j oj hj=>by
   rcases hl_new hj with ⟨rfl,_⟩|⟨_,p⟩
   ·exact ⟨o,ho⟩
   ·exact ⟨oj,p⟩
  obtain ⟨q1,e1⟩:=e k ob hh
  obtain ⟨q2,e2⟩:=e k' ob' hh'
  exact R.heap.apart k k' q1 q2 b hk hk' e1 e2 hb hb'
 ·intro k ob b hk hh hb
  rcases hl_new hh with ⟨rfl,e⟩|⟨hne,p1⟩
  ·simp only [Option.some.injEq] at e; subst e
   exact ⟨fun _=>rfl,fun _=>.inr ⟨hk,hb⟩⟩
  ·rw [← R.heap.im k ob b hk p1 hb]
   constructor
   ·rintro (h|⟨h1,h2⟩)
    ·exact h
    ·exact absurd (R.heap.apart k id ob o b hk h1 p1 ho hb h2) hne
   ·exact fun h=>.inl h
 ·rintro b (h|⟨h1,h2⟩)
  ·exact R.heap.lt b h
  ·exact R.heap.blk_lt h1 ho h2
 ·intro k ob b hk hh hb
  rcases hl_new hh with ⟨rfl,e⟩|⟨hne,p1⟩
  ·exact R.own k o b hk ho hb
  ·exact R.own k ob b hk p1 hb
 ·rintro b (h|⟨h1,h2⟩)
  ·exact R.imn b h
  ·exact .inr (R.own id o b h1 ho h2)
theorem aw_know {c:ACode} (n:Nat) (F:Prop) (hF:∀ E w v,Rd E w (st.get n) v→F) (h:F→AW P C c Q st):AW P C c Q st:=aw_learn F (fun E a w R=>hF E w _ (R.tm n)) h
end
def Typ (P:Program):Nat→TypeId→List AV→Prop
 | 0,_,_=>False
 | n+1,t,avs=>match P.underlying t with
   | some .bool=>∃ b,avs=[.lit (.bool b)]
   | some (.int k)=>∃ z,avs=[.lit (.int k z)]∧(Lit.int k z).wf=true
   | some .string=>∃ s:ByteArray,avs=[.lit (.string s)]∧s.size≤reachBytes
   | some (.slice e)=>∃ es,avs=[.sl (P.cellsOf e) es]∧es.length * P.bytesOf e≤reachBytes∧∀ x ∈ es,Typ P n e x
   | some (.struct fs)=>avs.length=P.cellsOf t∧∀ (i:Nat) (f:Field),fs[i]? = some f→Typ P n f.type ((avs.drop f.offset).take (P.cellsOf f.type))
   | some (.array k e)=>avs.length=P.cellsOf t∧∀ i,i<k→Typ P n e ((avs.drop (i * P.cellsOf e)).take (P.cellsOf e))
   | _=>False
def layB (P:Program):List Field→Nat→Nat→Bool
 | [],off,n=>Nat.beq off n
 | f::fs,off,n=>Nat.beq f.offset off && layB P fs (off+P.cellsOf f.type) n
def closedB (P:Program) (T:List TypeId):Bool :=
 T.all fun t=>match P.underlying t with
  | some .bool|some (.int _)|some .string=>Nat.beq (P.cellsOf t) 1
  | some (.slice e)=>T.any (Nat.beq e) && Nat.blt 0 (P.bytesOf e) && Nat.beq (P.cellsOf t) 1
  | some (.struct fs)=>layB P fs.toList 0 (P.cellsOf t) && fs.toList.all fun f=>T.any (Nat.beq f.type)
  | some (.array k e)=>T.any (Nat.beq e) && Nat.beq (k * P.cellsOf e) (P.cellsOf t)
  | _=>false
theorem any_beq {T:List TypeId} {e:TypeId} (h:T.any (Nat.beq e)=true):e ∈ T:=by
 rw [List.any_eq_true] at h
 obtain ⟨x,hx,hb⟩:=h
 rw [Nat.eq_of_beq_eq_true hb]; exact hx
theorem RdIL.one {im:Nat→Prop} {w:World} {av:AV} {v:Value} (h:RdI im w av v):RdIL im w [av] [v]:=⟨v,[],rfl,h,rfl⟩
section
variable {H:Type} {enc:TypeId × Value→H} {P:Program} {w:World} {held:Bool}
theorem weightsAll_mem {e:TypeId}:∀ {l:List (DataW H)} {d:DataW H} {n:Nat},d ∈ l→n ∈ d.weights P e→n ∈ DataW.weightsAll P e l
 | [],d,n,h,_=>by cases h
 | a::l,d,n,h,hn=>by
   simp only [DataW.weightsAll,List.mem_append]
   rcases List.mem_cons.1 h with rfl|h
   ·exact .inl hn
   ·exact .inr (weightsAll_mem h hn)
theorem weightsEach_mem:∀ {ts:List TypeId} {l:List (DataW H)} {i:Nat} {t:TypeId} {d:DataW H} {n:Nat},ts[i]? = some t→l[i]? = some d→n ∈ d.weights P t→n ∈ DataW.weightsEach P ts l
 | [],_,i,t,d,n,h,_,_=>by simp at h
 | _::_,[],i,t,d,n,_,h,_=>by simp at h
 | t0::ts,d0::l,0,t,d,n,h,h',hn=>by
   simp only [List.getElem?_cons_zero,Option.some.injEq] at h h'
   subst h; subst h'
   simp only [DataW.weightsEach,List.mem_append]; exact .inl hn
 | t0::ts,d0::l,i+1,t,d,n,h,h',hn=>by
   simp only [DataW.weightsEach,List.mem_append]; exact .inr (weightsEach_mem (by simpa using h) (by simpa using h') hn)
theorem lay_rd {im:Nat→Prop} {cs:List Value} {R:Field→List AV→Prop}:∀ (fs:List Field) (off n:Nat),layB P fs off n=true→off≤n→n=cs.length →
 (∀ f ∈ fs,∃ avs,RdIL im w avs ((cs.drop f.offset).take (P.cellsOf f.type))∧R f avs)→∃ avs,RdIL im w avs (cs.drop off)∧∀ f ∈ fs,R f ((avs.drop (f.offset - off)).take (P.cellsOf f.type))∧off≤f.offset
 | [],off,n,h,hle,hn,_=>by
   have:=Nat.eq_of_beq_eq_true h
   refine ⟨[],?_,fun f hf=>by cases hf⟩
   rw [List.drop_eq_nil_of_le (by omega)]; rfl
 | f::fs,off,n,h,hle,hn,hf=>by
   simp only [layB,Bool.and_eq_true] at h
   have ho:=Nat.eq_of_beq_eq_true h.1
   obtain ⟨a1,h1,h2⟩:=hf f (by simp)
   have hge:off+P.cellsOf f.type≤n:=by
    have:∀ (fs:List Field) (o n:Nat),layB P fs o n=true→o≤n:=by
     intro fs; induction fs with
     | nil=>intro o n h; have:=Nat.eq_of_beq_eq_true h; omega
     | cons f fs ih=>intro o n h; simp only [layB,Bool.and_eq_true] at h; have:=ih _ _ h.2; omega
    exact this _ _ _ h.2
   obtain ⟨a2,h3,h4⟩:=lay_rd fs (off+P.cellsOf f.type) n h.2 hge hn (fun f hf'=>hf f (by simp [hf']))
   rw [ho] at h1
   have hl1:a1.length=P.cellsOf f.type:=by
    have:=(RdIL.length h1)
    rw [List.length_take,List.length_drop] at this; omega
   refine ⟨a1++a2,?_,?_⟩
   ·have e:cs.drop off=(cs.drop off).take (P.cellsOf f.type)++cs.drop (off+P.cellsOf f.type):=by
     rw [← List.drop_drop,List.take_append_drop]
    rw [e]; exact h1.append h3
   ·intro f' hf'
    rcases List.mem_cons.1 hf' with rfl|hf'
    ·rw [ho,Nat.sub_self,List.drop_zero,← hl1,List.take_left]
     exact ⟨h2,Nat.le_refl _⟩
    ·obtain ⟨k1,k2⟩:=h4 f' hf'
     refine ⟨?_,by omega⟩
     rw [show f'.offset - off=a1.length+(f'.offset - (off+P.cellsOf f.type)) from by omega,List.drop_length_add_append]
     exact k1
theorem reach_max {n:Nat} (h:n≤reachBytes):n≤maxN:=by
 have:reachBytes=140737488351232:=by decide
 unfold maxN; omega
theorem trod_typ {T:List TypeId} (hT:closedB P T=true):∀ (n:Nat) (t:TypeId) (cs:List Value) (x:DataW H × List MemPlace),t ∈ T→DataW.trod enc P w 0 (fun _=>true) held n t cs=some x→(∀ k ∈ x.1.weights P t,k≤reachBytes) →
 ∃ avs,RdIL (fun b=>b<w.heap.size) w avs cs∧Ones cs∧cs.length=P.cellsOf t∧Typ P n t avs:=by
 intro n
 induction n with
 | zero=>intro t cs x _ h; simp [DataW.trod] at h
 | succ n ih =>
   intro t cs x ht h hw
   have hc:=List.all_eq_true.1 hT t ht
   cases hu:P.underlying t with
   | none=>simp [hu] at hc
   | some d =>
     rw [hu] at hc
     cases d<;>simp only [Bool.false_eq_true] at hc
     case bool =>
      unfold DataW.trod at h
      rw [hu] at h
      have hc1:=Nat.eq_of_beq_eq_true hc
      split at h<;>simp_all
      rename_i b
      refine ⟨[.lit (.bool b)],RdIL.one rfl,fun u hu=>by simp at hu; subst hu; rfl,?_⟩
      simp only [Typ,hu]
      exact ⟨b,rfl⟩
     case int k =>
      unfold DataW.trod at h
      rw [hu] at h
      have hc1:=Nat.eq_of_beq_eq_true hc
      split at h<;>simp_all
      rename_i k2 z e
      subst e
      refine ⟨[.lit (.int k z)],RdIL.one rfl,fun u hu=>by simp at hu; subst hu; rfl,?_⟩
      simp only [Typ,hu]
      exact ⟨z,rfl,h.1.2⟩
     case string =>
      unfold DataW.trod at h
      rw [hu] at h
      have hc1:=Nat.eq_of_beq_eq_true hc
      split at h<;>simp_all
      rename_i s
      obtain ⟨h1,rfl⟩:=h
      refine ⟨[.lit (.string s)],RdIL.one rfl,fun u hu=>by simp at hu; subst hu; rfl,?_⟩
      simp only [Typ,hu]
      exact ⟨s,rfl,by have:=hw s.data.toList.length (by simp [DataW.weights]); simpa using this⟩
     case slice e =>
      simp only [Bool.and_eq_true] at hc
      have heT:=any_beq hc.1.1
      have hby:0<P.bytesOf e:=by simpa [Nat.blt_eq] using hc.1.2
      have hc1:=Nat.eq_of_beq_eq_true hc.2
      rcases DataW.trod_slice hu h with ⟨rfl,rfl⟩|⟨a,len,cap,elems,rest,m,hm,rfl,rfl,_,hlc,hcm,hlen,hel,hsp,_⟩
      ·refine ⟨[.sl (P.cellsOf e) []],RdIL.one ⟨none,0,[],rfl,Nat.le_refl _,fun _=>rfl,Nat.zero_le _,fun i v h=>(by simp at h),fun u hu=>(by cases hu),rfl⟩,fun u hu=>by simp at hu; subst hu; rfl,by simpa using hc1.symm,?_⟩
       simp only [Typ,hu]
       exact ⟨[],rfl,by simp,fun x hx=>by cases hx⟩
      ·obtain rfl:n=m:=by omega
       have hwt:∀ k ∈ (DataW.slice (elems.map (·.1)) (rest.map (·.1)):DataW H).weights P t,k≤reachBytes:=hw
       have hrl:rest.length=cap - len:=(hsp rfl).1
       have hb:cap * P.bytesOf e≤reachBytes:=by
        refine hwt _ ?_
        simp only [DataW.weights,hu,List.length_map,hlen,hrl]
        rw [show len+(cap - len)=cap from by omega]
        exact List.mem_cons_self
       have hcap:cap≤reachBytes:=Nat.le_trans (Nat.le_mul_of_pos_right _ hby) hb
       have key:∀ k,k≤len→∃ es vs,es.length=k∧RdIE (fun b=>b<w.heap.size) w (P.cellsOf e) es vs∧Ones vs∧(∀ j u,vs[j]? = some u→w.cell? (a.add j)=some u)∧∀ x ∈ es,Typ P n e x:=by
        intro k
        induction k with
        | zero=>intro _; exact ⟨[],[],rfl,rfl,(fun u hu=>by cases hu),(fun j u hj=>by simp at hj),(fun x hx=>by cases hx)⟩
        | succ k ihk =>
          intro hk
          obtain ⟨es,vs,h1,h2,h3,h4,h5⟩:=ihk (by omega)
          have hk':=hel k (by omega)
          obtain ⟨x,hx⟩:∃ x,elems[k]? = some x:=⟨elems[k]'(by omega),by simp⟩
          rw [hx] at hk'
          obtain ⟨cs',hcells,htr⟩:=Option.bind_eq_some_iff.1 hk'
          obtain ⟨_,hlcs,hcell⟩:=World.cells?_some hcells
          obtain ⟨avs,q1,q2,q3,q4⟩:=ih e cs' x heT htr (fun q hq=>hwt q (by
           simp only [DataW.weights,hu]
           refine List.mem_cons_of_mem _ (List.mem_append.2 (.inl ?_))
           exact weightsAll_mem (List.mem_map.2 ⟨x,List.mem_of_getElem? hx,rfl⟩) hq))
          have hvl:vs.length=k * P.cellsOf e:=by rw [h2.length,h1]
          refine ⟨es++[avs],vs++cs',by simp [h1],h2.append ⟨cs',[],by simp,by omega,q1,rfl⟩,?_,?_,?_⟩
          ·intro u hu
           rcases List.mem_append.1 hu with h|h
           ·exact h3 u h
           ·exact q2 u h
          ·intro j u hj
           by_cases hjl:j<vs.length
           ·rw [List.getElem?_append_left hjl] at hj; exact h4 j u hj
           ·rw [List.getElem?_append_right (by omega)] at hj
            have hlt:=(List.getElem?_eq_some_iff.1 hj).1
            have:=hcell (j - vs.length) (by omega)
            rw [hj] at this
            have e1:(a.add (k * P.cellsOf e)).add (j - vs.length)=a.add j:=by
             rw [Addr.add_add]; congr 1; omega
            rw [e1] at this; exact this
          ·intro x hx
           rcases List.mem_append.1 hx with h|h
           ·exact h5 x h
           ·simp at h; subst h; exact q4
       obtain ⟨es,vs,h1,h2,h3,h4,h5⟩:=key len (Nat.le_refl _)
       have hat:AtA (fun b=>b<w.heap.size) w (some a) vs:=fun i v hv=>by
        have h0:=h4 i v hv
        obtain ⟨b,off,spot⟩:=a
        have hvl:0<vs.length:=by have:=(List.getElem?_eq_some_iff.1 hv).1; omega
        have h00:=h4 0 vs[0] (by simp [hvl])
        have hspot:spot=none:=by simpa [Addr.add] using World.cell?_spot h00
        subst hspot
        rw [addr_add] at h0
        exact ⟨b,off,rfl,World.block_lt_of_cell? w _ h0,h0⟩
       refine ⟨[.sl (P.cellsOf e) es],RdIL.one ⟨some a,cap,vs,by rw [h1],by omega,fun h=>(by cases h),reach_max (by omega),hat,h3,h2⟩,fun u hu=>by simp at hu; subst hu; rfl,by simpa using hc1.symm,?_⟩
       simp only [Typ,hu]
       exact ⟨es,rfl,Nat.le_trans (Nat.mul_le_mul_right _ (by omega)) hb,h5⟩
     case array q e =>
      simp only [Bool.and_eq_true] at hc
      have heT:=any_beq hc.1
      have hsz:=Nat.eq_of_beq_eq_true hc.2
      obtain ⟨xs,m,hm,rfl,hl,hlen,hf⟩:=DataW.trod_array hu h
      obtain rfl:n=m:=by omega
      have hwt:∀ k ∈ (DataW.agg (xs.map (·.1)):DataW H).weights P t,k≤reachBytes:=hw
      have key:∀ k,k≤q→∃ avs,RdIL (fun b=>b<w.heap.size) w avs (cs.take (k * P.cellsOf e))∧Ones (cs.take (k * P.cellsOf e))∧avs.length=k * P.cellsOf e∧∀ i,i<k→Typ P n e ((avs.drop (i * P.cellsOf e)).take (P.cellsOf e)):=by
       intro k
       induction k with
       | zero=>intro _; exact ⟨[],by rw [Nat.zero_mul,List.take_zero]; rfl,by rw [Nat.zero_mul,List.take_zero]; (intro u hu; cases hu),by simp,fun i hi=>absurd hi (Nat.not_lt_zero _)⟩
       | succ k ihk =>
         intro hk
         obtain ⟨avs,h1,h2,h3,h4⟩:=ihk (by omega)
         have htr:=hf k (by omega)
         obtain ⟨x,hx⟩:∃ x,xs[k]? = some x:=⟨xs[k]'(by omega),by simp⟩
         rw [hx] at htr
         obtain ⟨avs2,q1,q2,q3,q4⟩:=ih e _ x heT htr (fun q' hq=>hwt q' (by
          simp only [DataW.weights,hu]
          exact weightsAll_mem (List.mem_map.2 ⟨x,List.mem_of_getElem? hx,rfl⟩) hq))
         have hsplit:cs.take ((k+1) * P.cellsOf e)=cs.take (k * P.cellsOf e)++(cs.drop (k * P.cellsOf e)).take (P.cellsOf e):=by
          rw [Nat.succ_mul,List.take_add]
         have hl2:avs2.length=P.cellsOf e:=by rw [← q3]; exact (RdIL.length q1).symm
         refine ⟨avs++avs2,by rw [hsplit]; exact h1.append q1,?_,by rw [List.length_append,h3,hl2,Nat.succ_mul],?_⟩
         ·rw [hsplit]
          intro u hu'
          rcases List.mem_append.1 hu' with h|h
          ·exact h2 u h
          ·exact q2 u h
         ·intro i hi
          by_cases hik:i<k
          ·have hle:i * P.cellsOf e+P.cellsOf e≤avs.length:=by
            rw [h3,← Nat.succ_mul]; exact Nat.mul_le_mul_right _ hik
           have:=h4 i hik
           rw [List.drop_append_of_le_length (by omega),List.take_append_of_le_length (by rw [List.length_drop]; omega)]
           exact this
          ·obtain rfl:i=k:=by omega
           rw [← h3,List.drop_left,← hl2,List.take_length]
           exact q4
      obtain ⟨avs,h1,h2,h3,h4⟩:=key q (Nat.le_refl _)
      have hall:cs.take (q * P.cellsOf e)=cs:=List.take_of_length_le (by omega)
      rw [hall] at h1 h2
      refine ⟨avs,h1,h2,hl,?_⟩
      simp only [Typ,hu]
      exact ⟨by omega,h4⟩
     case struct fs =>
      simp only [Bool.and_eq_true,List.all_eq_true] at hc
      obtain ⟨xs,m,hm,rfl,hl,hlen,hf⟩:=DataW.trod_struct hu h
      obtain rfl:n=m:=by omega
      have hwt:∀ k ∈ (DataW.agg (xs.map (·.1)):DataW H).weights P t,k≤reachBytes:=hw
      have hall:∀ f ∈ fs.toList,∃ avs,RdIL (fun b=>b<w.heap.size) w avs ((cs.drop f.offset).take (P.cellsOf f.type))∧(Ones ((cs.drop f.offset).take (P.cellsOf f.type))∧Typ P n f.type avs):=by
       intro f hfm
       obtain ⟨i,hi⟩:=List.getElem?_of_mem hfm
       have hi':fs[i]? = some f:=by simpa using hi
       have hlt:=(Array.getElem?_eq_some_iff.1 hi').1
       obtain ⟨x,hx⟩:∃ x,xs[i]? = some x:=⟨xs[i]'(by omega),by simp [hlen,hlt]⟩
       have htr:=hf i f hi'
       rw [hx] at htr
       obtain ⟨avs,q1,q2,q3,q4⟩:=ih f.type _ x (any_beq (hc.2 f hfm)) htr (fun q hq=>hwt q (by
        simp only [DataW.weights,hu]
        exact weightsEach_mem (i:=i) (t:=f.type) (d:=x.1) (by simp [hi]) (by simp [hx]) hq))
       exact ⟨avs,q1,q2,q4⟩
      obtain ⟨avs,k1,k2⟩:=lay_rd (P:=P) (R:=fun f a=>Ones ((cs.drop f.offset).take (P.cellsOf f.type))∧Typ P n f.type a) fs.toList 0 (P.cellsOf t) hc.1 (Nat.zero_le _) hl.symm hall
      rw [List.drop_zero] at k1
      refine ⟨avs,k1,?_,hl,?_⟩
      ·intro u hu'
       obtain ⟨i,hi⟩:=List.getElem?_of_mem hu'
       have hilt:=(List.getElem?_eq_some_iff.1 hi).1
       have find:∀ (fs:List Field) (off:Nat),layB P fs off (P.cellsOf t)=true→off≤i→∃ f ∈ fs,f.offset≤i∧i<f.offset+P.cellsOf f.type:=by
        intro fs
        induction fs with
        | nil=>intro off h hle; have:=Nat.eq_of_beq_eq_true h; omega
        | cons f fs ihf =>
          intro off h hle
          simp only [layB,Bool.and_eq_true] at h
          have ho:=Nat.eq_of_beq_eq_true h.1
          by_cases hlt:i<off+P.cellsOf f.type
          ·exact ⟨f,by simp,by omega,by omega⟩
          ·obtain ⟨f',h1,h2⟩:=ihf _ h.2 (by omega)
           exact ⟨f',by simp [h1],h2⟩
       obtain ⟨f,hfm,h1,h2⟩:=find fs.toList 0 hc.1 (Nat.zero_le _)
       have:=(k2 f hfm).1.1 u
       refine this (List.mem_of_getElem? (i:=i - f.offset) ?_)
       rw [List.getElem?_take,if_pos (by omega),List.getElem?_drop,show f.offset+(i - f.offset)=i from by omega]
       exact hi
      ·simp only [Typ,hu]
       refine ⟨by have:=RdIL.length k1; omega,fun i f hi => ?_⟩
       have:=(k2 f (by rw [← Array.getElem?_toList] at hi; exact List.mem_of_getElem? hi)).1.2
       simpa using this
end
structure Num where
 neg:Bool
 top:List Int
 bot:List Int
mutual
inductive Arr where
 | mk (s:Nat) (shape:List Int) (cells:List Cell)
inductive Cell where
 | mk (l:Nat) (kind:Int) (n:Num) (c:Int) (ins:List Arr)
end
def Arr.s:Arr→Nat|.mk s _ _=>s
def Arr.shape:Arr→List Int|.mk _ sh _=>sh
def Arr.cells:Arr→List Cell|.mk _ _ cs=>cs
def Cell.l:Cell→Nat|.mk l _ _ _ _=>l
def Cell.kind:Cell→Int|.mk _ k _ _ _=>k
def Cell.n:Cell→Num|.mk _ _ n _ _=>n
def Cell.c:Cell→Int|.mk _ _ _ c _=>c
def Cell.ins:Cell→List Arr|.mk _ _ _ _ ins=>ins
def intsA (k:IntKind) (zs:List Int):List (List AV):=zs.map fun z=>[.lit (.int k z)]
def numV (n:Num):List AV:=[.lit (.bool n.neg),.sl 1 (intsA .u32 n.top),.sl 1 (intsA .u32 n.bot)]
mutual
def arrR:Arr→List AV
 | .mk s sh cs=>[.lit (.int .u64 s),.sl 1 (intsA .i64 sh),.sl 7 (cellsR cs)]
def cellR:Cell→List AV
 | .mk l k n c ins=>[.lit (.int .u64 l),.lit (.int .i64 k),.lit (.bool n.neg),.sl 1 (intsA .u32 n.top),.sl 1 (intsA .u32 n.bot),.lit (.int .i64 c),.sl 3 (arrsR ins)]
def cellsR:List Cell→List (List AV)
 | []=>[]
 | c::cs=>cellR c::cellsR cs
def arrsR:List Arr→List (List AV)
 | []=>[]
 | a::l=>arrR a::arrsR l
end
theorem cellsR_map:∀ (cs:List Cell),cellsR cs=cs.map cellR
 | []=>rfl
 | c::cs=>by simp only [cellsR,List.map_cons,cellsR_map cs]
theorem arrsR_map:∀ (l:List Arr),arrsR l=l.map arrR
 | []=>rfl
 | a::l=>by simp only [arrsR,List.map_cons,arrsR_map l]
def arrV (a:Arr):List AV:=[.lit (.int .u64 a.s),.sl 1 (intsA .i64 a.shape),.sl 7 (a.cells.map cellR)]
def cellV (c:Cell):List AV:=[.lit (.int .u64 c.l),.lit (.int .i64 c.kind),.lit (.bool c.n.neg),.sl 1 (intsA .u32 c.n.top),.sl 1 (intsA .u32 c.n.bot),.lit (.int .i64 c.c),.sl 3 (c.ins.map arrR)]
theorem arrR_eq (a:Arr):arrR a=arrV a:=by cases a; simp only [arrR,arrV,cellsR_map,Arr.s,Arr.shape,Arr.cells]
theorem cellR_eq (c:Cell):cellR c=cellV c:=by cases c; simp only [cellR,cellV,arrsR_map,Cell.l,Cell.kind,Cell.n,Cell.c,Cell.ins]
theorem cell_at {cs:List Cell} {i:Nat} {c:Cell} (h:cs[i]? = some c):(cs.map cellR)[i]? = some (cellV c):=by simp [h,cellR_eq]
theorem arr_at {l:List Arr} {i:Nat} {a:Arr} (h:l[i]? = some a):(l.map arrR)[i]? = some (arrV a):=by simp [h,arrR_eq]
theorem int_at {k:IntKind} {zs:List Int} {i:Nat} {z:Int} (h:zs[i]? = some z):(intsA k zs)[i]? = some [.lit (.int k z)]:=by simp [intsA,h]
def numOK (n:Num):Prop:=(∀ z ∈ n.top,(Lit.int .u32 z).wf=true)∧(∀ z ∈ n.bot,(Lit.int .u32 z).wf=true)∧n.top.length≤reachBytes∧n.bot.length≤reachBytes
mutual
def arrOK:Arr→Prop
 | .mk s sh cs=>s<18446744073709551616∧(∀ z ∈ sh,(Lit.int .i64 z).wf=true)∧sh.length≤reachBytes∧cs.length≤reachBytes∧cellsOK cs
def cellOK:Cell→Prop
 | .mk l k n c ins=>l<18446744073709551616∧(Lit.int .i64 k).wf=true∧numOK n∧(Lit.int .i64 c).wf=true∧ins.length≤reachBytes∧arrsOK ins
def cellsOK:List Cell→Prop
 | []=>True
 | c::cs=>cellOK c∧cellsOK cs
def arrsOK:List Arr→Prop
 | []=>True
 | a::l=>arrOK a∧arrsOK l
end
theorem cellsOK_mem:∀ {cs:List Cell},cellsOK cs↔∀ c ∈ cs,cellOK c
 | []=>by simp [cellsOK]
 | c::cs=>by simp only [cellsOK,List.mem_cons,forall_eq_or_imp,cellsOK_mem]
theorem arrsOK_mem:∀ {l:List Arr},arrsOK l↔∀ a ∈ l,arrOK a
 | []=>by simp [arrsOK]
 | a::l=>by simp only [arrsOK,List.mem_cons,forall_eq_or_imp,arrsOK_mem]
structure ArrT (P:Program) (tA tC tN tI tCs tAs tU tU64 tI64 tB tU32:TypeId):Prop where
 arr:∃ f0 f1 f2:Field,P.underlying tA=some (.struct #[f0,f1,f2])∧f0.type=tU64∧f1.type=tI∧f2.type=tCs∧f0.offset=0∧f1.offset=1∧f2.offset=2
 cell:∃ f0 f1 f2 f3 f4:Field,P.underlying tC=some (.struct #[f0,f1,f2,f3,f4])∧f0.type=tU64∧f1.type=tI64∧f2.type=tN∧f3.type=tI64∧f4.type=tAs∧f0.offset=0∧f1.offset=1∧f2.offset=2∧f3.offset=5∧f4.offset=6
 num:∃ f0 f1 f2:Field,P.underlying tN=some (.struct #[f0,f1,f2])∧f0.type=tB∧f1.type=tU∧f2.type=tU∧f0.offset=0∧f1.offset=1∧f2.offset=2
 ints:P.underlying tI=some (.slice tI64)
 cells:P.underlying tCs=some (.slice tC)
 arrs:P.underlying tAs=some (.slice tA)
 limbs:P.underlying tU=some (.slice tU32)
 u64:P.underlying tU64=some (.int .u64)
 i64:P.underlying tI64=some (.int .i64)
 b:P.underlying tB=some .bool
 u32:P.underlying tU32=some (.int .u32)
 sz:P.cellsOf tA=3∧P.cellsOf tC=7∧P.cellsOf tN=3∧P.cellsOf tI=1∧P.cellsOf tCs=1∧P.cellsOf tAs=1∧P.cellsOf tU=1∧P.cellsOf tU64=1∧P.cellsOf tI64=1∧P.cellsOf tB=1∧P.cellsOf tU32=1
 by_:0<P.bytesOf tA∧0<P.bytesOf tC∧0<P.bytesOf tI64∧0<P.bytesOf tU32
section
variable {P:Program} {tA tC tN tI tCs tAs tU tU64 tI64 tB tU32:TypeId}
theorem typ_ints {t e:TypeId} {k:IntKind} (h1:P.underlying t=some (.slice e)) (h2:P.underlying e=some (.int k)) (h3:P.cellsOf e=1) (h4:0<P.bytesOf e):∀ {n:Nat} {avs:List AV},Typ P n t avs→∃ zs,avs=[.sl 1 (intsA k zs)]∧(∀ z ∈ zs,(Lit.int k z).wf=true)∧zs.length≤reachBytes
 | 0,_,h=>h.elim
 | n+1,avs,h=>by
   simp only [Typ,h1] at h
   obtain ⟨es,rfl,hl,h⟩:=h
   have:∀ (es:List (List AV)),(∀ x ∈ es,Typ P n e x)→∃ zs:List Int,es=intsA k zs∧∀ z ∈ zs,(Lit.int k z).wf=true:=by
    intro es
    induction es with
    | nil=>intro _; exact ⟨[],rfl,fun z hz=>by cases hz⟩
    | cons x es ih =>
      intro hx
      obtain ⟨zs,h5,h6⟩:=ih (fun y hy=>hx y (List.mem_cons_of_mem _ hy))
      have hx0:=hx x (by simp)
      cases n with
      | zero=>exact hx0.elim
      | succ n =>
        simp only [Typ,h2] at hx0
        obtain ⟨z,rfl,hz⟩:=hx0
        refine ⟨z::zs,by rw [h5]; rfl,fun y hy => ?_⟩
        rcases List.mem_cons.1 hy with rfl|hy
        ·exact hz
        ·exact h6 y hy
   obtain ⟨zs,rfl,hz⟩:=this es h
   refine ⟨zs,by rw [h3],hz,?_⟩
   have:(intsA k zs).length=zs.length:=by simp [intsA]
   rw [this] at hl
   exact Nat.le_trans (Nat.le_mul_of_pos_right _ h4) hl
theorem typ_int {t:TypeId} {k:IntKind} (h1:P.underlying t=some (.int k)):∀ {n:Nat} {avs:List AV},Typ P n t avs→∃ z,avs=[.lit (.int k z)]∧(Lit.int k z).wf=true
 | 0,_,h=>h.elim
 | n+1,avs,h=>by simpa only [Typ,h1] using h
theorem typ_bool {t:TypeId} (h1:P.underlying t=some .bool):∀ {n:Nat} {avs:List AV},Typ P n t avs→∃ b,avs=[.lit (.bool b)]
 | 0,_,h=>h.elim
 | n+1,avs,h=>by simpa only [Typ,h1] using h
theorem list3 {α:Type} {l:List α} (h:l.length=3):∃ a b c,l=[a,b,c]:=by
 match l,h with
 | [a,b,c],_=>exact ⟨a,b,c,rfl⟩
theorem list7 {α:Type} {l:List α} (h:l.length=7):∃ a b c d e f g,l=[a,b,c,d,e,f,g]:=by
 match l,h with
 | [a,b,c,d,e,f,g],_=>exact ⟨a,b,c,d,e,f,g,rfl⟩
theorem u64_wf {z:Int} (h:(Lit.int .u64 z).wf=true):∃ n:Nat,z=n∧n<18446744073709551616:=by
 simp [Lit.wf,IntKind.min,IntKind.max,IntKind.signed,IntKind.bits] at h
 exact ⟨z.toNat,by omega,by omega⟩
theorem typ_arr (T:ArrT P tA tC tN tI tCs tAs tU tU64 tI64 tB tU32):∀ (n:Nat) (avs:List AV),Typ P n tA avs→∃ A,avs=arrR A∧arrOK A:=by
 intro n
 induction n using Nat.strongRecOn with
 | _ n ih =>
   intro avs h
   obtain ⟨s1,s2,s3,s4,s5,s6,s7,s8,s9,s10,s11⟩:=T.sz
   obtain ⟨b1,b2,b3,b4⟩:=T.by_
   cases n with
   | zero=>exact h.elim
   | succ n =>
   obtain ⟨f0,f1,f2,hu,t0,t1,t2,o0,o1,o2⟩:=T.arr
   simp only [Typ,hu] at h
   obtain ⟨hl,hf⟩:=h
   rw [s1] at hl
   obtain ⟨x0,x1,x2,rfl⟩:=list3 hl
   have e0:=hf 0 f0 rfl
   have e1:=hf 1 f1 rfl
   have e2:=hf 2 f2 rfl
   simp only [t0,t1,t2,o0,o1,o2,s8,s4,s5,List.drop_zero,List.drop_succ_cons,List.take_succ_cons,List.take_zero] at e0 e1 e2
   obtain ⟨z0,hz0,w0⟩:=typ_int T.u64 e0
   obtain ⟨sh,hsh,wsh,lsh⟩:=typ_ints T.ints T.i64 s9 b3 e1
   simp only [List.cons.injEq,and_true] at hz0 hsh
   obtain ⟨s,rfl,hs⟩:=u64_wf w0
   cases n with
   | zero=>exact e2.elim
   | succ n =>
   simp only [Typ,T.cells] at e2
   obtain ⟨es,he,hle,hes⟩:=e2
   simp only [List.cons.injEq,and_true] at he
   have hcells:∀ (es:List (List AV)),(∀ x ∈ es,Typ P n tC x)→∃ cs:List Cell,es=cellsR cs∧cellsOK cs:=by
    intro es
    induction es with
    | nil=>intro _; exact ⟨[],rfl,trivial⟩
    | cons x es ihe =>
      intro hx
      obtain ⟨cs,h5,h6⟩:=ihe (fun y hy=>hx y (List.mem_cons_of_mem _ hy))
      have hx0:=hx x (by simp)
      cases n with
      | zero=>exact hx0.elim
      | succ n =>
      obtain ⟨g0,g1,g2,g3,g4,hu,q0,q1,q2,q3,q4,p0,p1,p2,p3,p4⟩:=T.cell
      simp only [Typ,hu] at hx0
      obtain ⟨hl,hf⟩:=hx0
      rw [s2] at hl
      obtain ⟨y0,y1,y2,y3,y4,y5,y6,rfl⟩:=list7 hl
      have e0:=hf 0 g0 rfl
      have e1:=hf 1 g1 rfl
      have e2:=hf 2 g2 rfl
      have e3:=hf 3 g3 rfl
      have e4:=hf 4 g4 rfl
      simp only [q0,q1,q2,q3,q4,p0,p1,p2,p3,p4,s8,s9,s3,s6,List.drop_zero,List.drop_succ_cons,List.take_succ_cons,List.take_zero] at e0 e1 e2 e3 e4
      obtain ⟨z0,hz0,w0⟩:=typ_int T.u64 e0
      obtain ⟨z1,hz1,w1⟩:=typ_int T.i64 e1
      obtain ⟨z3,hz3,w3⟩:=typ_int T.i64 e3
      simp only [List.cons.injEq,and_true] at hz0 hz1 hz3
      obtain ⟨l,rfl,hl'⟩:=u64_wf w0
      cases n with
      | zero=>exact e2.elim
      | succ n =>
      obtain ⟨k0,k1,k2,hun,r0,r1,r2,m0,m1,m2⟩:=T.num
      simp only [Typ,hun] at e2
      obtain ⟨_,hfn⟩:=e2
      have j0:=hfn 0 k0 rfl
      have j1:=hfn 1 k1 rfl
      have j2:=hfn 2 k2 rfl
      simp only [r0,r1,r2,m0,m1,m2,s10,s7,List.drop_zero,List.drop_succ_cons,List.take_succ_cons,List.take_zero] at j0 j1 j2
      obtain ⟨b,hb⟩:=typ_bool T.b j0
      obtain ⟨tp,htp,wtp,ltp⟩:=typ_ints T.limbs T.u32 s11 b4 j1
      obtain ⟨bt,hbt,wbt,lbt⟩:=typ_ints T.limbs T.u32 s11 b4 j2
      simp only [List.cons.injEq,and_true] at hb htp hbt
      simp only [Typ,T.arrs] at e4
      obtain ⟨is,his,hli,his'⟩:=e4
      simp only [List.cons.injEq,and_true] at his
      have hins:∀ (is:List (List AV)),(∀ x ∈ is,Typ P n tA x)→∃ l:List Arr,is=arrsR l∧arrsOK l:=by
       intro is
       induction is with
       | nil=>intro _; exact ⟨[],rfl,trivial⟩
       | cons x is ihi =>
         intro hx
         obtain ⟨l,h7,h8⟩:=ihi (fun y hy=>hx y (List.mem_cons_of_mem _ hy))
         obtain ⟨A,hA,hOK⟩:=ih n (by omega) x (hx x (by simp))
         exact ⟨A::l,by rw [h7,hA]; rfl,hOK,h8⟩
      obtain ⟨ins,rfl,hinsOK⟩:=hins is his'
      have hil:(arrsR ins).length=ins.length:=by rw [arrsR_map]; simp
      refine ⟨.mk l z1 ⟨b,tp,bt⟩ z3 ins::cs,?_,⟨hl',w1,⟨wtp,wbt,ltp,lbt⟩,w3,?_,hinsOK⟩,h6⟩
      ·rw [h5]; simp only [cellsR,cellR,hz0,hz1,hz3,hb,htp,hbt,his,s1]
      ·rw [hil] at hli; exact Nat.le_trans (Nat.le_mul_of_pos_right _ b1) hli
   obtain ⟨cs,rfl,hcs⟩:=hcells es hes
   have hcl:(cellsR cs).length=cs.length:=by rw [cellsR_map]; simp
   refine ⟨.mk s sh cs,?_,hs,wsh,lsh,?_,hcs⟩
   ·simp only [arrR,hz0,hsh,he,s2]
   ·rw [hcl] at hle; exact Nat.le_trans (Nat.le_mul_of_pos_right _ b2) hle
end
def flowsN (a b:Nat):Bool:=a ||| b == b
theorem andNot_zero (a b:Nat) (ha:a<18446744073709551616) (hb:b<18446744073709551616):(bits .andNot .u64 (a:Int) (b:Int) == 0)=flowsN a b:=by
 rw [u64_andNot_nat a b ha hb]
 have e:18446744073709551615 - b=2 ^ 64 - (b+1):=by omega
 rw [Bool.eq_iff_iff,flowsN]
 simp only [beq_iff_eq]
 constructor
 ·intro h
  have h0:a &&& (18446744073709551615 - b)=0:=by omega
  apply Nat.eq_of_testBit_eq
  intro i
  rw [Nat.testBit_or]
  have:=congrArg (Nat.testBit · i) h0
  simp only [Nat.testBit_and,Nat.zero_testBit] at this
  rw [e,Nat.testBit_two_pow_sub_succ (by omega)] at this
  by_cases hi:i<64
  ·cases ha':a.testBit i<;>cases hb':b.testBit i<;>simp_all
  ·have h1:a.testBit i=false:=Nat.testBit_lt_two_pow (Nat.lt_of_lt_of_le ha (by
    have:(2:Nat) ^ 64≤2 ^ i:=Nat.pow_le_pow_right (by omega) (by omega)
    omega))
   simp [h1]
 ·intro h
  have h0:a &&& (18446744073709551615 - b)=0:=by
   apply Nat.eq_of_testBit_eq
   intro i
   have:=congrArg (Nat.testBit · i) h
   simp only [Nat.testBit_or] at this
   rw [Nat.testBit_and,e,Nat.testBit_two_pow_sub_succ (by omega),Nat.zero_testBit]
   cases ha':a.testBit i<;>cases hb':b.testBit i<;>simp_all
  rw [h0]; rfl
theorem or_lt (a b:Nat) (ha:a<18446744073709551616) (hb:b<18446744073709551616):a ||| b<18446744073709551616:=Nat.or_lt_two_pow (n:=64) ha hb
theorem div_pow_succ (l k:Nat):l / 2 ^ k / 2=l / 2 ^ (k+1):=by rw [Nat.div_div_eq_div_mul,Nat.pow_succ]
theorem testBit_ge {a i:Nat} (ha:a<18446744073709551616) (hi:64≤i):a.testBit i=false:=Nat.testBit_lt_two_pow (Nat.lt_of_lt_of_le ha (by
 have:(2:Nat) ^ 64≤2 ^ i:=Nat.pow_le_pow_right (by omega) (by omega)
 omega))
theorem flowsN_iff {a b:Nat} (ha:a<18446744073709551616):flowsN a b=true↔∀ i,i<64→a.testBit i=true→b.testBit i=true:=by
 rw [flowsN,beq_iff_eq]
 constructor
 ·intro h i _ hi
  rw [← h,Nat.testBit_or,hi]; rfl
 ·intro h
  apply Nat.eq_of_testBit_eq
  intro i
  rw [Nat.testBit_or]
  by_cases hi:i<64
  ·have:=h i hi
   cases ha':a.testBit i<;>cases hb':b.testBit i<;>simp_all
  ·rw [testBit_ge ha (by omega)]; simp
theorem mod_step (x k:Nat):x % 2 ^ (k+1)=x % 2 ^ k+(if x.testBit k then 2 ^ k else 0):=by
 rw [Nat.pow_succ,Nat.mod_mul,Nat.testBit_eq_decide_div_mod_eq]
 rcases Nat.mod_two_eq_zero_or_one (x / 2 ^ k) with h|h<;>simp [h]
theorem mod_step_lt (x k:Nat) (hk:k<64):x % 2 ^ k+2 ^ k<18446744073709551616:=by
 have h1:=Nat.mod_lt x (Nat.two_pow_pos k)
 have h2:(2:Nat) ^ (k+1)≤2 ^ 64:=Nat.pow_le_pow_right (by omega) (by omega)
 rw [Nat.pow_succ] at h2
 have:(2:Nat) ^ 64=18446744073709551616:=by decide
 omega
theorem mod_64 {x:Nat} (hx:x<18446744073709551616):x % 2 ^ 64=x:=Nat.mod_eq_of_lt hx
theorem wk {C:Ctx} {N:Nat} {s s':St} (hC:Pure C N) (σ:List (Nat × Nat)) (L:List Nat) (n:Nat) (e:canonWith σ L n s=s':=by rfl) (h:okR n σ=true:=by rfl):Weak C s s':=weak_canon σ L n h (fun i hi=>absurd hi (by rw [hC.m]; omega)) e
def intsP (xs ys:List Int):Bool:=xs == ys
def numP (a b:Num):Bool:=(a.neg == b.neg) && (intsP a.top b.top && intsP a.bot b.bot)
theorem numP_iff (a b:Num):numP a b=true↔a=b:=by
 obtain ⟨n,t,b⟩:=a
 rename_i b2
 obtain ⟨n',t',b'⟩:=b2
 simp [numP,intsP]
mutual
def sameA:Arr→Arr→Bool
 | .mk s sh cs,.mk s2 sh2 cs2=>(s == s2) && (intsP sh sh2 && sameCs cs cs2)
def sameCs:List Cell→List Cell→Bool
 | [],[]=>true
 | c::cs,d::ds=>sameC c d && sameCs cs ds
 | _,_=>false
def sameC:Cell→Cell→Bool
 | .mk l k n c ins,.mk l2 k2 n2 c2 ins2=>(l == l2) && ((k == k2) && ((c == c2) && (numP n n2 && sameAs ins ins2)))
def sameAs:List Arr→List Arr→Bool
 | [],[]=>true
 | c::cs,d::ds=>sameA c d && sameAs cs ds
 | _,_=>false
end
mutual
theorem sameA_iff:∀ (A B:Arr),sameA A B=true↔A=B
 | .mk s sh cs,.mk s2 sh2 cs2=>by
   have:=sameCs_iff cs cs2
   simp only [sameA,Bool.and_eq_true,this,beq_iff_eq,intsP,Arr.mk.injEq]
theorem sameCs_iff:∀ (cs ds:List Cell),sameCs cs ds=true↔cs=ds
 | [],[]=>by simp [sameCs]
 | [],_::_=>by simp [sameCs]
 | _::_,[]=>by simp [sameCs]
 | c::cs,d::ds=>by
   have h1:=sameC_iff c d
   have h2:=sameCs_iff cs ds
   simp only [sameCs,Bool.and_eq_true,h1,h2,List.cons.injEq]
theorem sameC_iff:∀ (c d:Cell),sameC c d=true↔c=d
 | .mk l k n c ins,.mk l2 k2 n2 c2 ins2=>by
   have h1:=sameAs_iff ins ins2
   simp only [sameC,Bool.and_eq_true,h1,numP_iff,beq_iff_eq,Cell.mk.injEq]
   constructor
   ·rintro ⟨h1,h2,h3,h4,h5⟩; exact ⟨h1,h2,h4,h3,h5⟩
   ·rintro ⟨h1,h2,h3,h4,h5⟩; exact ⟨h1,h2,h4,h3,h5⟩
theorem sameAs_iff:∀ (cs ds:List Arr),sameAs cs ds=true↔cs=ds
 | [],[]=>by simp [sameAs]
 | [],_::_=>by simp [sameAs]
 | _::_,[]=>by simp [sameAs]
 | c::cs,d::ds=>by
   have h1:=sameA_iff c d
   have h2:=sameAs_iff cs ds
   simp only [sameAs,Bool.and_eq_true,h1,h2,List.cons.injEq]
end
theorem sameA_refl (A:Arr):sameA A A=true:=(sameA_iff A A).2 rfl
theorem sameCs_len (cs ds:List Cell) (h:cs.length≠ds.length):sameCs cs ds=false:=by
 cases e:sameCs cs ds
 ·rfl
 ·exact absurd (congrArg List.length ((sameCs_iff cs ds).1 e)) h
theorem sameAs_len (cs ds:List Arr) (h:cs.length≠ds.length):sameAs cs ds=false:=by
 cases e:sameAs cs ds
 ·rfl
 ·exact absurd (congrArg List.length ((sameAs_iff cs ds).1 e)) h
mutual
def wfA:Arr→Prop
 | .mk s _ cs=>s<18446744073709551616∧wfCs cs
def wfCs:List Cell→Prop
 | []=>True
 | c::cs=>wfC c∧wfCs cs
def wfC:Cell→Prop
 | .mk l _ _ _ ins=>l<18446744073709551616∧wfAs ins
def wfAs:List Arr→Prop
 | []=>True
 | a::xs=>wfA a∧wfAs xs
end
mutual
theorem arrOK.wf:∀ {A:Arr},arrOK A→wfA A
 | .mk s sh cs,h=>by
   simp only [arrOK] at h
   exact ⟨h.1,cellsOK.wf h.2.2.2.2⟩
theorem cellsOK.wf:∀ {cs:List Cell},cellsOK cs→wfCs cs
 | [],h=>by simp [wfCs]
 | c::cs,h=>by
   simp only [cellsOK] at h
   exact ⟨cellOK.wf h.1,cellsOK.wf h.2⟩
theorem cellOK.wf:∀ {c:Cell},cellOK c→wfC c
 | .mk l k n c ins,h=>by
   simp only [cellOK] at h
   exact ⟨h.1,arrsOK.wf h.2.2.2.2.2⟩
theorem arrsOK.wf:∀ {xs:List Arr},arrsOK xs→wfAs xs
 | [],h=>by simp [wfAs]
 | a::xs,h=>by
   simp only [arrsOK] at h
   exact ⟨arrOK.wf h.1,arrsOK.wf h.2⟩
end
end Go.Proofs.YtnnipocjapblkaaGreat
