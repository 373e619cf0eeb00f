/- An abstract layer over the walk, part 10: a call that changes the caller's blocks. -/
import Derived.Test.YtnnipocjapblkaaGreatK03
import Derived.Defers
import Derived.Recover
import Derived.Test.YtnnipocjapblkaaGreatK02
namespace Go.Proofs.YtnnipocjapblkaaGreat
set_option linter.unusedVariables false
open Go.RowKit
theorem swap_look {n:Nat} {σ:List (Nat × Nat)} (h:okR n σ=true) {p:Nat × Nat} (hp:p ∈ σ):look (swapL σ) p.2=some p.1:=by
 have hm:p.2 ∈ (swapL σ).map (·.1):=by
  simp only [swapL,List.map_map]
  exact List.mem_map.2 ⟨p,hp,rfl⟩
 obtain ⟨x,hx⟩:=look_some hm
 have:=look_mem hx
 simp only [swapL,List.mem_map] at this
 obtain ⟨q,hq,e⟩:=this
 simp only [Prod.mk.injEq] at e
 have:=okR_inj h q p hq hp e.1
 subst this
 rw [hx,← e.2]
def updM (τ:List (Nat × Nat)) (h':Hp):Hp:=h'.map fun p=>((match look τ p.1 with|some k=>k|none=>0),p.2.map (renOB τ))
section
variable {P:Program} {st:St} {d:Option Nat} {g:Option (Nat × Bool)}
theorem hl_map {τ:List (Nat × Nat)} {h':Hp} {j:Nat} {o:OB} (hj:hl h' j=some o) (hinj:∀ i,i ∈ h'.map (·.1)→look τ i=look τ j→i=j) {k:Nat} (hk:look τ j=some k) (hall:∀ i,i ∈ h'.map (·.1)→∃ k,look τ i=some k) (rest:Hp) :
 hl (updM τ h'++rest) k=some (renOB τ o):=by
 have key:look (updM τ h') k=some (some (renOB τ o)):=by
  induction h' with
  | nil=>simp [hl,look] at hj
  | cons p h' ih =>
    obtain ⟨i,x⟩:=p
    simp only [updM,List.map_cons,look]
    by_cases hij:i=j
    ·subst hij
     simp only [hl,look,Nat.beq_refl,cond_true] at hj
     rw [hk]
     simp only [Nat.beq_refl,cond_true]
     cases x with
     | none=>cases hj
     | some o'=>simp only [Option.some.injEq] at hj; subst hj; rfl
    ·obtain ⟨k',hk'⟩:=hall i (by simp)
     have hne:k'≠k:=fun e=>hij (hinj i (by simp) (by rw [hk',hk,e]))
     rw [hk']
     simp only [beq_ne hne,cond_false]
     have hj':hl h' j=some o:=by simpa only [hl,look,beq_ne hij,cond_false] using hj
     exact ih hj' (fun i' hi'=>hinj i' (by simp only [List.map_cons,List.mem_cons]; exact .inr hi')) (fun i' hi'=>hall i' (by simp only [List.map_cons,List.mem_cons]; exact .inr hi'))
 simp only [hl,look_append,key]
theorem updM_keys {τ:List (Nat × Nat)} {h':Hp} {k:Nat} (hk:k ∈ (updM τ h').map (·.1)):∃ j,j ∈ h'.map (·.1)∧(match look τ j with|some k=>k|none=>0)=k:=by
 simp only [updM,List.map_map,List.mem_map] at hk
 obtain ⟨p,hp,e⟩:=hk
 exact ⟨p.1,List.mem_map.2 ⟨p,hp,rfl⟩,e⟩
theorem updM_none {τ:List (Nat × Nat)} {h':Hp} {j k:Nat} (hm:j ∈ h'.map (·.1)) (hj:hl h' j=none) (hinj:∀ i,i ∈ h'.map (·.1)→look τ i=look τ j→i=j) (hk:look τ j=some k) (hall:∀ i,i ∈ h'.map (·.1)→∃ k,look τ i=some k) (rest:Hp) :
 hl (updM τ h'++rest) k=none:=by
 have key:look (updM τ h') k=some none:=by
  induction h' with
  | nil=>simp at hm
  | cons p h' ih =>
    obtain ⟨i,x⟩:=p
    simp only [updM,List.map_cons,look]
    by_cases hij:i=j
    ·subst hij
     simp only [hl,look,Nat.beq_refl,cond_true] at hj
     rw [hk]
     simp only [Nat.beq_refl,cond_true]
     cases x with
     | none=>rfl
     | some o'=>cases hj
    ·obtain ⟨k',hk'⟩:=hall i (by simp)
     have hne:k'≠k:=fun e=>hij (hinj i (by simp) (by rw [hk',hk,e]))
     rw [hk']
     simp only [beq_ne hne,cond_false]
     have hj':hl h' j=none:=by simpa only [hl,look,beq_ne hij,cond_false] using hj
     refine ih ?_ hj' (fun i' hi'=>hinj i' (by simp only [List.map_cons,List.mem_cons]; exact .inr hi')) (fun i' hi'=>hall i' (by simp only [List.map_cons,List.mem_cons]; exact .inr hi'))
     simp only [List.map_cons,List.mem_cons] at hm
     rcases hm with h|h
     ·exact absurd h.symm hij
     ·exact h
 simp only [hl,look_append,key]
theorem renL_map (σ:List (Nat × Nat)):∀ l:List AV,renL σ l=l.map (renAV σ)
 | []=>rfl
 | a::l=>by simp only [renL,List.map_cons,renL_map σ l]
theorem look_news {m nx:Nat} (l:List (Nat × Nat)):∀ (n j:Nat),look ((List.range n).map (fun i=>(m+i,nx+i))++l) j=if m≤j∧j<m+n then some (nx+(j - m)) else look l j:=by
 intro n
 induction n generalizing l with
 | zero=>intro j; rw [if_neg (by omega)]; rfl
 | succ n ih =>
   intro j
   rw [List.range_succ,List.map_append,List.append_assoc,ih]
   simp only [List.map_cons,List.map_nil,List.cons_append,List.nil_append,look_if]
   split
   ·rw [if_pos (by omega)]
   ·split
    ·rename_i h1 h2; subst h2; rw [if_pos (by omega)]; congr 1; omega
    ·rw [if_neg (by omega)]
theorem tauL_old {σ:List (Nat × Nat)} {m:Nat} (n nx:Nat) {j:Nat} (hj:j<m):look (tauL σ m (m+n) nx) j=look (swapL σ) j:=by
 unfold tauL
 rw [Nat.add_sub_cancel_left,look_news,if_neg (by omega)]
theorem tauL_new {σ:List (Nat × Nat)} {m n:Nat} (nx:Nat) {j:Nat} (hj:j<n):look (tauL σ m (m+n) nx) (m+j)=some (nx+j):=by
 unfold tauL
 rw [Nat.add_sub_cancel_left,look_news,if_pos (by omega)]; congr 2; omega
theorem q_callM {fo:Operand} {args:List Operand} {f:FuncId} {fi ca argsA argsC:List AV} {hC h':Hp} {m m':Nat} {r:AV} (σ:List (Nat × Nat)) (hg:gOK st g) (hf:ev st fo=.fn f fi ca)
 (hσ:okR m σ=true) (hcov:coverB m σ=true) (hlive:(σ.all fun p=>(refsA (restr (σ.map (·.1)) st.h) (fi++(args.map (ev st)++ca))).any (Nat.beq p.1))=true)
 (hargs:(fi++(args.map (ev st)++ca)).map (renAV σ)=argsA) (hs:SubRL argsA argsC) (hh0:(σ.map fun p=>(p.2,(hl st.h p.1).map (renOB σ)))=hC) (hro:(σ.all fun p=>match hl st.h p.1 with|some o => !o.ro|none=>true)=true) (hc:AMut P f argsC hC m r h' m')
 (hkeys:((h'.map (·.1)).all fun i=>Nat.blt i m')=true) (hin:coverB m' (h'.map fun p=>(p.1,p.1))=true) (hm':Nat.ble m m'=true) :
 Step P st ⟨⟨d,g,.call fo args⟩,renAV (tauL σ m m' st.nx) r,σ.map (·.1),updM (tauL σ m m' st.nx) h',m' - m⟩:=by
 intro N ops o hlow C E a w sx hN R hag hh hnw K Q hK
 rw [if_pos (wanted_of hlow R hag hg)]
 obtain ⟨h1,h2,h3,h4⟩:=lower_parts hlow
 have hr:∀ x ∈ fo::args,Rd E w (ev st x) (a.eval x):=fun x hx=>eval_of R hag (by simpa [AOp.opds] using hx)
 have hfv:=hr fo (by simp)
 rw [hf] at hfv
 obtain ⟨vs,us,hfv,hfi,hca⟩:=hfv
 have hargs0:RdL E w (args.map (ev st)) (args.map a.eval):=rdL_evs (fun x hx=>hr x (List.mem_cons_of_mem _ hx))
 have hall:RdL E w (fi++(args.map (ev st)++ca)) (vs++(args.map a.eval++us)):=hfi.append (hargs0.append hca)
 have hhx:∀ id,id ∈ σ.map (·.1)→hl sx.h id=hl st.h id:=fun id hid=>hh id (.inl hid)
 have hrefs:=refsA_live (R.heap.restr hhx) (fi++(args.map (ev st)++ca)) _ hall
 have hlv:∀ p ∈ σ,E.live p.1:=fun p hp=>by
  rw [List.all_eq_true] at hlive
  have:=hlive p hp
  rw [List.any_eq_true] at this
  obtain ⟨j,hj,hb⟩:=this
  rw [Nat.eq_of_beq_eq_true hb]
  exact hrefs j hj
 have hroF:∀ p ∈ σ,∀ o0,hl sx.h p.1=some o0→o0.ro=false:=fun p hp o0 ho=>by
  rw [List.all_eq_true] at hro
  have:=hro p hp
  rw [hhx p.1 (List.mem_map.2 ⟨p,hp,rfl⟩)] at ho
  rw [ho] at this
  simpa using this
 obtain ⟨⟨fn,hfn,hname,hbody⟩,hcall⟩:=hc
 have hargsR:RdL (renE σ E) w argsC (vs++(args.map a.eval++us)):=by
  refine hs _ _ _ ?_
  rw [← hargs]
  have:=RdL.ren hσ _ _ hall
  rw [renL_map] at this
  exact this
 have hcan:(σ.map fun p=>(p.2,(hl sx.h p.1).map (renOB σ)))=hC:=by
  rw [← hh0]
  refine List.map_congr_left fun p hp => ?_
  rw [hhx p.1 (List.mem_map.2 ⟨p,hp,rfl⟩)]
 have hR0:HeapOK (renE σ E) w hC:=by
  have R':Rel { C with m:=0 } E sx a w:=⟨R.defers,R.size,R.tm,R.heap,R.nx,R.own,fun id hid=>absurd hid (Nat.not_lt_zero _),R.imx,R.imn,R.frm⟩
  have:=(canon_rel σ [] m hσ (fun i hi=>absurd hi (Nat.not_lt_zero _)) (rfl:canonWith σ [] m sx=canonWith σ [] m sx) R').heap
  rw [← hcan]
  exact this
 have hE0:∀ id,(renE σ E).live id↔id<m:=fun id=>by
  constructor
  ·rintro ⟨p,hp,rfl,_⟩; exact okR_lt hσ p hp
  ·intro hid
   obtain ⟨p,hp,e⟩:=coverB_mem hcov hid
   exact ⟨p,hp,e,hlv p hp⟩
 have hcc:=hcall (renE σ E) w _ hargsR hR0 hE0
 have hrun:(execOp a.eval o).run P w=.ok (.enter f (vs++(args.map a.eval++us)).toArray) w:=by
  obtain ⟨dst,op,ty,pos,after,guard⟩:=o
  obtain ⟨l,rfl⟩:=low_spec h3
  have hcf:(callFunc f (vs++(args.map a.eval++us)).toArray).run P w=.ok (.enter f (vs++(args.map a.eval++us)).toArray) w:=callFunc_run hfn hname hbody
  simp only [execOp,resolve,Sem.run_bind,hfv,Deferred.ofValue,Sem.run_pure,Result.andThen_ok,invoke]
  simpa using hcf
 unfold Oper.wp
 rw [hrun,Oper.upon_enter]
 refine hcc.mono ?_
 rintro e w' ⟨v,E1,rfl,hrv,H1,hlt1,hext,him1,himn,hown1,hfrm⟩
 show K _ _
 have hX:∀ b,blksOf (renE σ E) hC b→∃ p o0,p ∈ σ∧hl sx.h p.1=some o0∧blkOf (E.val p.1)=some b:=by
  rintro b ⟨id,o0,⟨p,hp,rfl,hl1⟩,ho,hb⟩
  rw [← hcan] at ho
  obtain ⟨q,o1,hq,e1,ho1,rfl⟩:=hl_canon (st:=sx) hσ ho
  obtain rfl:=okR_inj hσ q p hq hp e1
  simp only [renE,back_of hσ hp] at hb
  exact ⟨q,o1,hp,ho1,hb⟩
 obtain ⟨n,rfl⟩:∃ n,m'=m+n:=Nat.exists_eq_add_of_le (by simpa [Nat.ble_eq] using hm')
 rw [Nat.add_sub_cancel_left] at hnw hK
 replace hnw:∀ j,j<n→¬ E.live (st.nx+j)∧st.nx+j<sx.nx:=hnw
 generalize hτe:tauL σ m (m+n) st.nx=τ at hK ⊢
 let E2:Env:=⟨E1.im,fun k=>E.live k∨(∃ j,j<n∧k=st.nx+j∧E1.live (m+j)),fun k=>if st.nx≤k∧k<st.nx+n then E1.val (m+(k - st.nx)) else E.val k,fun k=>if st.nx≤k∧k<st.nx+n then E1.sz (m+(k - st.nx)) else E.sz k⟩
 have hne:∀ k,E.live k→¬ (st.nx≤k∧k<st.nx+n):=fun k hk h=>by
  have h0:=(hnw (k - st.nx) (by omega)).1
  rw [show st.nx+(k - st.nx)=k from by omega] at h0
  exact h0 hk
 have hl2:∀ k,E.live k→E2.live k∧E2.val k=E.val k∧E2.sz k=E.sz k:=fun k hk=>⟨.inl hk,by simp only [E2]; rw [if_neg (hne k hk)],by simp only [E2]; rw [if_neg (hne k hk)]⟩
 have hi2:∀ b,E.im b→E2.im b:=fun b hb=>him1 b hb
 have hXno:∀ b,E.im b→¬ blksOf (renE σ E) hC b:=fun b hb hx=>by
  obtain ⟨p,o0,hp,ho,hbb⟩:=hX b hx
  have k1:=(R.heap.im p.1 o0 b (hlv p hp) ho hbb).1 hb
  rw [hroF p hp o0 ho] at k1
  cases k1
 have hw:∀ b,E.im b→w'.heap[b]? = w.heap[b]? := fun b hb=>hfrm.block b (R.heap.lt b hb) (hXno b hb)
 have hXown:∀ b,blksOf (renE σ E) hC b→C.w0.heap.size≤b∨C.X b:=fun b hb=>by
  obtain ⟨p,o0,hp,ho,hbb⟩:=hX b hb
  exact R.own p.1 o0 b (hlv p hp) ho hbb
 have hlo:∀ p ∈ σ,look τ p.2=some p.1:=fun p hp=>by
  rw [← hτe,tauL_old n st.nx (okR_lt hσ p hp)]
  exact swap_look hσ hp
 have hlom:∀ j,j<n→look τ (m+j)=some (st.nx+j):=fun j hj=>by
  rw [← hτe,tauL_new st.nx hj]
 have hlook:∀ j,j<m+n→(∃ p ∈ σ,p.2=j∧look τ j=some p.1)∨(∃ i,i<n∧j=m+i∧look τ j=some (st.nx+i)):=fun j hj=>by
  by_cases hjm:j<m
  ·obtain ⟨p,hp,e⟩:=coverB_mem hcov hjm
   exact .inl ⟨p,hp,e,e ▸ hlo p hp⟩
  ·have e:j=m+(j - m):=by omega
   exact .inr ⟨j - m,by omega,e,by rw [e,hlom _ (by omega)]; congr 1; omega⟩
 have hnxσ:∀ i,i<n→∀ p ∈ σ,p.1≠st.nx+i:=fun i h p hp e=>(hnw i h).1 (e ▸ hlv p hp)
 have hinj:∀ i j,i<m+n→j<m+n→look τ i=look τ j→i=j:=fun i j hi hj e=>by
  rcases hlook i hi with ⟨p,hp,e1,k1⟩|⟨i1,hmm,e1,k1⟩<;>rcases hlook j hj with ⟨q,hq,e2,k2⟩|⟨j1,hmm2,e2,k2⟩
  ·rw [k1,k2] at e
   have hpq:=Option.some.inj e
   have l1:=okR_left hσ p hp
   have l2:=okR_left hσ q hq
   rw [hpq] at l1
   rw [l1] at l2
   rw [← e1,← e2]; exact Option.some.inj l2
  ·rw [k1,k2] at e
   exact absurd (Option.some.inj e) (hnxσ j1 hmm2 p hp)
  ·rw [k1,k2] at e
   exact absurd (Option.some.inj e).symm (hnxσ i1 hmm q hq)
  ·rw [k1,k2] at e
   have:=Option.some.inj e
   omega
 have hkeyL:∀ i,i ∈ h'.map (·.1)→i<m+n:=fun i hi=>by
  rw [List.all_eq_true] at hkeys
  have:=hkeys i hi
  simpa [Nat.blt_eq] using this
 have hkeyI:∀ i,i<m+n→i ∈ h'.map (·.1):=fun i hi=>by
  obtain ⟨p,hp,e⟩:=coverB_mem hin hi
  rw [List.mem_map] at hp
  obtain ⟨q,hq,rfl⟩:=hp
  exact List.mem_map.2 ⟨q,hq,e⟩
 have hτ:∀ j,E1.live j→∃ k,look τ j=some k∧E2.live k∧E2.val k=E1.val j∧E2.sz k=E1.sz j:=fun j hj=>by
  rcases hlook j (hlt1 j hj) with ⟨p,hp,e1,k1⟩|⟨i,hmm,e1,k1⟩
  ·obtain ⟨j1,j2,j3⟩:=hl2 p.1 (hlv p hp)
   obtain ⟨i1,i2,i3⟩:=hext j (by rw [← e1]; exact okR_lt hσ p hp)
   have hb:=back_of hσ hp
   refine ⟨p.1,k1,j1,?_,?_⟩
   ·rw [j2,i2,← e1]; simp only [renE,hb]
   ·rw [j3,i3,← e1]; simp only [renE,hb]
  ·refine ⟨st.nx+i,k1,.inr ⟨i,hmm,rfl,e1 ▸ hj⟩,?_,?_⟩
   ·simp only [E2]; rw [if_pos (by omega),e1]; congr 1; omega
   ·simp only [E2]; rw [if_pos (by omega),e1]; congr 1; omega
 have hcase:∀ id o1,E2.live id→hl (updM τ h'++sx.h) id=some o1 →
  (∃ j o',E1.live j∧hl h' j=some o'∧o1=renOB τ o'∧look τ j=some id∧E2.val id=E1.val j∧E2.sz id=E1.sz j)∨(id ∉ (updM τ h').map (·.1)∧E.live id∧hl sx.h id=some o1):=by
  intro id o1 hl1 ho
  by_cases hmem:id ∈ (updM τ h').map (·.1)
  ·obtain ⟨j,hj,e⟩:=updM_keys hmem
   have hjm:=hkeyL j hj
   obtain ⟨k,hk⟩:∃ k,look τ j=some k:=by
    rcases hlook j hjm with ⟨p,_,_,k1⟩|⟨_,_,_,k1⟩
    ·exact ⟨_,k1⟩
    ·exact ⟨_,k1⟩
   rw [hk] at e
   simp only at e
   subst e
   have hallk:∀ i,i ∈ h'.map (·.1)→∃ k,look τ i=some k:=fun i hi=>by
    rcases hlook i (hkeyL i hi) with ⟨p,_,_,k1⟩|⟨_,_,_,k1⟩
    ·exact ⟨_,k1⟩
    ·exact ⟨_,k1⟩
   have hinjk:∀ i,i ∈ h'.map (·.1)→look τ i=look τ j→i=j:=fun i hi=>hinj i j (hkeyL i hi) hjm
   have hjlive:E1.live j:=by
    rcases hlook j hjm with ⟨p,hp,e1,k1⟩|⟨i,hmm,e1,k1⟩
    ·exact (hext j (by rw [← e1]; exact okR_lt hσ p hp)).1
    ·rw [hk] at k1
     have hkn:=Option.some.inj k1
     rcases hl1 with hl1|⟨i2,hi2',e2,hl1⟩
     ·exact absurd (hkn ▸ hl1) (hnw i hmm).1
     ·rw [e1,show i=i2 from by omega]; exact hl1
   left
   cases hj':hl h' j with
   | none =>
     rw [updM_none hj hj' hinjk hk hallk] at ho
     cases ho
   | some o' =>
     rw [hl_map hj' hinjk hk hallk] at ho
     obtain ⟨k2,e2,_,v2,s2⟩:=hτ j hjlive
     rw [hk] at e2
     obtain rfl:=Option.some.inj e2
     exact ⟨j,o',hjlive,hj',(Option.some.inj ho).symm,hk,v2,s2⟩
  ·right
   rw [hl_out _ _ _ hmem] at ho
   refine ⟨hmem,?_,ho⟩
   rcases hl1 with hl1|⟨i,hmm,e,_⟩
   ·exact hl1
   ·exfalso
    refine hmem ?_
    simp only [updM,List.map_map,List.mem_map]
    have:=hkeyI (m+i) (by omega)
    rw [List.mem_map] at this
    obtain ⟨q,hq,eq⟩:=this
    refine ⟨q,hq,?_⟩
    simp only [Function.comp,eq,hlom i hmm,e]
 have hσkey:∀ p ∈ σ,p.1 ∈ (updM τ h').map (·.1):=fun p hp=>by
  have hlt:p.2<m+n:=by have:=okR_lt hσ p hp; omega
  have:=hkeyI p.2 hlt
  rw [List.mem_map] at this
  obtain ⟨q,hq,eq⟩:=this
  simp only [updM,List.map_map,List.mem_map]
  refine ⟨q,hq,?_⟩
  simp only [Function.comp,eq,hlo p hp]
 have hfar:∀ id o0 b,id ∉ (updM τ h').map (·.1)→E.live id→hl sx.h id=some o0→blkOf (E.val id)=some b→¬ blksOf (renE σ E) hC b:=by
  intro id o0 b hout hl1 ho hb hx
  obtain ⟨p,o1,hp,hpo,hbb⟩:=hX b hx
  have:=R.heap.apart id p.1 o0 o1 b hl1 (hlv p hp) ho hpo hb hbb
  exact hout (this ▸ hσkey p hp)
 have RM:Rel C E2 ⟨sx.t,updM τ h'++sx.h,sx.nx⟩ a w':=by
  refine ⟨R.defers,R.size,fun n=>Rd.mono hl2 hi2 hw _ _ (R.tm n),⟨?_,?_,?_,H1.lt⟩,?_,?_,?_,fun b hb=>hi2 b (R.imx b hb),?_,?_⟩
  ·intro id o1 hl1 ho
   rcases hcase id o1 hl1 ho with ⟨j,o',k1,k2,rfl,k4,k5,k6⟩|⟨k1,k2,k3⟩
   ·exact obOK.map (E:=E1) (E':=E2) (fun b hb=>hb) hτ (H1.ob j o' k1 k2) k5 k6
   ·refine (R.heap.ob id o1 k2 k3).mono (hl2 id k2).2 hl2 hi2 hw (fun b hb=>hfrm.block b (R.heap.blk_lt k2 k3 hb) (hfar id o1 b k1 k2 k3 hb))
  ·intro id id' o1 o2 b hl1 hl1' ho ho' hb hb'
   rcases hcase id o1 hl1 ho with ⟨j,o',k1,k2,rfl,k4,k5,k6⟩|⟨k1,k2,k3⟩<;>rcases hcase id' o2 hl1' ho' with ⟨j',o'',i1,i2,rfl,i4,i5,i6⟩|⟨i1,i2,i3⟩
   ·rw [k5] at hb; rw [i5] at hb'
    have:=H1.apart j j' _ _ b k1 i1 k2 i2 hb hb'
    subst this
    rw [k4] at i4; exact Option.some.inj i4
   ·exfalso
    rw [k5] at hb; rw [(hl2 id' i2).2.1] at hb'
    rcases hown1 j _ b k1 k2 hb with h|h
    ·have:=R.heap.blk_lt i2 i3 hb'; omega
    ·exact hfar id' _ b i1 i2 i3 hb' h
   ·exfalso
    rw [i5] at hb'; rw [(hl2 id k2).2.1] at hb
    rcases hown1 j' _ b i1 i2 hb' with h|h
    ·have:=R.heap.blk_lt k2 k3 hb; omega
    ·exact hfar id _ b k1 k2 k3 hb h
   ·rw [(hl2 id k2).2.1] at hb; rw [(hl2 id' i2).2.1] at hb'
    exact R.heap.apart id id' _ _ b k2 i2 k3 i3 hb hb'
  ·intro id o1 b hl1 ho hb
   rcases hcase id o1 hl1 ho with ⟨j,o',k1,k2,rfl,k4,k5,k6⟩|⟨k1,k2,k3⟩
   ·rw [k5] at hb
    have er:(renOB τ o').ro=o'.ro:=by unfold renOB; cases o'.row<;>cases (o'.sz == 0)<;>rfl
    rw [er]
    exact H1.im j o' b k1 k2 hb
   ·rw [(hl2 id k2).2.1] at hb
    rw [← R.heap.im id o1 b k2 k3 hb]
    constructor
    ·intro h
     rcases himn b h with h|h|h
     ·exact h
     ·have:=R.heap.blk_lt k2 k3 hb; omega
     ·exact absurd h (hfar id o1 b k1 k2 k3 hb)
    ·exact hi2 b
  ·rintro id (h|⟨j,h,rfl,_⟩)
   ·exact R.nx id h
   ·exact (hnw j h).2
  ·intro id o1 b hl1 ho hb
   rcases hcase id o1 hl1 ho with ⟨j,o',k1,k2,rfl,k4,k5,k6⟩|⟨k1,k2,k3⟩
   ·rw [k5] at hb
    rcases hown1 j o' b k1 k2 hb with h|h
    ·have:=R.frm.size; exact .inl (by omega)
    ·exact hXown b h
   ·rw [(hl2 id k2).2.1] at hb
    exact R.own id o1 b k2 k3 hb
  ·intro id hid
   obtain ⟨k1,k2,k3⟩:=R.ext id hid
   obtain ⟨j1,j2,j3⟩:=hl2 id k1
   exact ⟨j1,by rw [j2]; exact k2,by rw [j3]; exact k3⟩
  ·intro b hb
   rcases himn b hb with h|h|h
   ·exact R.imn b h
   ·have:=R.frm.size; exact .inr (.inl (by omega))
   ·exact .inr (hXown b h)
  ·refine ⟨hfrm.os.trans R.frm.os,hfrm.tape.trans R.frm.tape,hfrm.output.trans R.frm.output,Nat.le_trans R.frm.size hfrm.size,fun k hk hX' => ?_⟩
   refine (hfrm.block k (Nat.lt_of_lt_of_le hk R.frm.size) (fun hx => ?_)).trans (R.frm.block k hk hX')
   rcases hXown k hx with h|h
   ·omega
   ·exact hX' h
 refine hK v w' E2 ?_ ?_
 ·have:=RM.put (d:=o.dst) (fun k hk=>by rw [hN]; exact h2 k hk) (Rd.map (E:=E1) (E':=E2) (fun b hb=>hb) hτ r v hrv)
  simp only [St.appx]
  rw [show d=o.dst from h1]
  exact this
 ·rintro id (h|⟨j,h,e,_⟩)
  ·exact .inl h
  ·exact .inr ⟨j,h,e⟩
end
section
variable {P:Program} {tt:List (Nat × AV)} {hh:Hp} {nn dd:Nat} {g:Option (Nat × Bool)} {l:List AInst} {acc:List SD} {K:List SD→St→Prop}
theorem r_callM {fo:Operand} {args:List Operand} {f:FuncId} {fi ca argsA argsC:List AV} {hC h' u' h2:Hp} {m m':Nat} {r v:AV} (σ:List (Nat × Nat)) (hc:AMut P f argsC hC m r h' m')
 (h:RG P (⟨⟨some dd,g,.call fo args⟩,v,σ.map (·.1),u',0⟩::acc) l ⟨(dd,v)::tt,h2,nn⟩ K)
 (hmm:m'=m:=by rfl)
 (hv:renAV (swapL σ) r=v:=by (simp only [renAV,renL,renOB,swapL,updM,look_if,look_nil,List.map_cons,List.map_nil,↓reduceIte,Nat.reduceEqDiff,Nat.reduceBEq,Nat.reduceAdd,Option.map_some,Option.map_none,cond_true,cond_false]; exact rfl)) (hu:updM (swapL σ) h'=u':=by (simp only [renAV,renL,renOB,swapL,updM,look_if,look_nil,List.map_cons,List.map_nil,↓reduceIte,Nat.reduceEqDiff,Nat.reduceBEq,Nat.reduceAdd,Option.map_some,Option.map_none,cond_true,cond_false]; exact rfl)) (h2e:u'++hh=h2:=by (simp only [List.cons_append,List.nil_append]; exact rfl))
 (hg:gOK ⟨tt,hh,nn⟩ g:=by first|exact True.intro|rfl) (hf:ev ⟨tt,hh,nn⟩ fo=.fn f fi ca:=by rfl)
 (hσ:okR m σ=true:=by rfl) (hcov:coverB m σ=true:=by rfl) (hlive:(σ.all fun p=>(refsA (restr (σ.map (·.1)) hh) (fi++(args.map (ev ⟨tt,hh,nn⟩)++ca))).any (Nat.beq p.1))=true:=by rfl)
 (hargs:(fi++(args.map (ev ⟨tt,hh,nn⟩)++ca)).map (renAV σ)=argsA:=by rfl) (hs:SubRL argsA argsC:=by (repeat (first|exact SubRL.nil|refine SubRL.cons ?_ ?_|exact SubR.nil _|exact SubR.refl _|exact SubR.any _|refine SubR.agg ?_)))
 (hh0:(σ.map fun p=>(p.2,(hl hh p.1).map (renOB σ)))=hC:=by rfl) (hro:(σ.all fun p=>match hl hh p.1 with|some o => !o.ro|none=>true)=true:=by rfl)
 (hkeys:((h'.map (·.1)).all fun i=>Nat.blt i m')=true:=by rfl) (hin:coverB m' (h'.map fun p=>(p.1,p.1))=true:=by rfl) :
 RG P acc (⟨some dd,g,.call fo args⟩::l) ⟨tt,hh,nn⟩ K:=by
 subst hmm
 have e1:m' - m'=0:=Nat.sub_self _
 have e2:tauL σ m' m' nn=swapL σ:=by simp [tauL]
 have hs':=q_callM (st:=⟨tt,hh,nn⟩) (d:=some dd) (g:=g) σ hg hf hσ hcov hlive hargs hs hh0 hro hc hkeys hin (by simp)
 simp only [e1,e2,hv,hu] at hs'
 subst h2e
 exact RG.step hs' h
theorem r_callN {fo:Operand} {args:List Operand} {f:FuncId} {fi ca argsA argsC:List AV} {hC h' u' h2:Hp} {m m' n2:Nat} {r v:AV} (σ:List (Nat × Nat)) (hc:AMut P f argsC hC m r h' m')
 (h:RG P (⟨⟨some dd,g,.call fo args⟩,v,σ.map (·.1),u',1⟩::acc) l ⟨(dd,v)::tt,h2,n2⟩ K)
 (hmm:m'=m+1:=by rfl)
 (hv:renAV ((m,nn)::swapL σ) r=v:=by (simp only [renAV,renL,renOB,swapL,updM,look_if,look_nil,List.map_cons,List.map_nil,↓reduceIte,Nat.reduceEqDiff,Nat.reduceBEq,Nat.reduceAdd,Option.map_some,Option.map_none,cond_true,cond_false]; exact rfl)) (hu:updM ((m,nn)::swapL σ) h'=u':=by (simp only [renAV,renL,renOB,swapL,updM,look_if,look_nil,List.map_cons,List.map_nil,↓reduceIte,Nat.reduceEqDiff,Nat.reduceBEq,Nat.reduceAdd,Option.map_some,Option.map_none,cond_true,cond_false]; exact rfl)) (h2e:u'++hh=h2:=by (simp only [List.cons_append,List.nil_append]; exact rfl)) (hn2:nn+1=n2:=by (simp only [Nat.reduceAdd]; exact rfl))
 (hg:gOK ⟨tt,hh,nn⟩ g:=by first|exact True.intro|rfl) (hf:ev ⟨tt,hh,nn⟩ fo=.fn f fi ca:=by rfl)
 (hσ:okR m σ=true:=by rfl) (hcov:coverB m σ=true:=by rfl) (hlive:(σ.all fun p=>(refsA (restr (σ.map (·.1)) hh) (fi++(args.map (ev ⟨tt,hh,nn⟩)++ca))).any (Nat.beq p.1))=true:=by rfl)
 (hargs:(fi++(args.map (ev ⟨tt,hh,nn⟩)++ca)).map (renAV σ)=argsA:=by rfl) (hs:SubRL argsA argsC:=by (repeat (first|exact SubRL.nil|refine SubRL.cons ?_ ?_|exact SubR.nil _|exact SubR.refl _|exact SubR.any _|refine SubR.agg ?_)))
 (hh0:(σ.map fun p=>(p.2,(hl hh p.1).map (renOB σ)))=hC:=by rfl) (hro:(σ.all fun p=>match hl hh p.1 with|some o => !o.ro|none=>true)=true:=by rfl)
 (hkeys:((h'.map (·.1)).all fun i=>Nat.blt i m')=true:=by rfl) (hin:coverB m' (h'.map fun p=>(p.1,p.1))=true:=by rfl) :
 RG P acc (⟨some dd,g,.call fo args⟩::l) ⟨tt,hh,nn⟩ K:=by
 subst hn2
 subst hmm
 have e1:m+1 - m=1:=Nat.add_sub_cancel_left ..
 have e2:tauL σ m (m+1) nn=(m,nn)::swapL σ:=by simp [tauL]
 have hs':=q_callM (st:=⟨tt,hh,nn⟩) (d:=some dd) (g:=g) σ hg hf hσ hcov hlive hargs hs hh0 hro hc hkeys hin (by simp)
 simp only [e1,e2,hv,hu] at hs'
 subst h2e
 exact RG.step hs' h
theorem r_callN2 {fo:Operand} {args:List Operand} {f:FuncId} {fi ca argsA argsC:List AV} {hC h' u' h2:Hp} {m m' n2:Nat} {r v:AV} (σ:List (Nat × Nat)) (hc:AMut P f argsC hC m r h' m')
 (h:RG P (⟨⟨some dd,g,.call fo args⟩,v,σ.map (·.1),u',2⟩::acc) l ⟨(dd,v)::tt,h2,n2⟩ K)
 (hmm:m'=m+2:=by rfl)
 (hv:renAV ((m,nn)::(m+1,nn+1)::swapL σ) r=v:=by (simp only [renAV,renL,renOB,swapL,updM,look_if,look_nil,List.map_cons,List.map_nil,↓reduceIte,Nat.reduceEqDiff,Nat.reduceBEq,Nat.reduceAdd,Option.map_some,Option.map_none,cond_true,cond_false]; exact rfl)) (hu:updM ((m,nn)::(m+1,nn+1)::swapL σ) h'=u':=by (simp only [renAV,renL,renOB,swapL,updM,look_if,look_nil,List.map_cons,List.map_nil,↓reduceIte,Nat.reduceEqDiff,Nat.reduceBEq,Nat.reduceAdd,Option.map_some,Option.map_none,cond_true,cond_false]; exact rfl)) (h2e:u'++hh=h2:=by (simp only [List.cons_append,List.nil_append]; exact rfl)) (hn2:nn+2=n2:=by (simp only [Nat.reduceAdd]; exact rfl))
 (hg:gOK ⟨tt,hh,nn⟩ g:=by first|exact True.intro|rfl) (hf:ev ⟨tt,hh,nn⟩ fo=.fn f fi ca:=by rfl)
 (hσ:okR m σ=true:=by rfl) (hcov:coverB m σ=true:=by rfl) (hlive:(σ.all fun p=>(refsA (restr (σ.map (·.1)) hh) (fi++(args.map (ev ⟨tt,hh,nn⟩)++ca))).any (Nat.beq p.1))=true:=by rfl)
 (hargs:(fi++(args.map (ev ⟨tt,hh,nn⟩)++ca)).map (renAV σ)=argsA:=by rfl) (hs:SubRL argsA argsC:=by (repeat (first|exact SubRL.nil|refine SubRL.cons ?_ ?_|exact SubR.nil _|exact SubR.refl _|exact SubR.any _|refine SubR.agg ?_)))
 (hh0:(σ.map fun p=>(p.2,(hl hh p.1).map (renOB σ)))=hC:=by rfl) (hro:(σ.all fun p=>match hl hh p.1 with|some o => !o.ro|none=>true)=true:=by rfl)
 (hkeys:((h'.map (·.1)).all fun i=>Nat.blt i m')=true:=by rfl) (hin:coverB m' (h'.map fun p=>(p.1,p.1))=true:=by rfl) :
 RG P acc (⟨some dd,g,.call fo args⟩::l) ⟨tt,hh,nn⟩ K:=by
 subst hn2
 subst hmm
 have e1:m+2 - m=2:=Nat.add_sub_cancel_left ..
 have e2:tauL σ m (m+2) nn=(m,nn)::(m+1,nn+1)::swapL σ:=by simp [tauL,List.range_succ]
 have hs':=q_callM (st:=⟨tt,hh,nn⟩) (d:=some dd) (g:=g) σ hg hf hσ hcov hlive hargs hs hh0 hro hc hkeys hin (by simp)
 simp only [e1,e2,hv,hu] at hs'
 subst h2e
 exact RG.step hs' h
end
structure AFnD where
 N:Nat
 res:List ARes
 pre:ACode
 t:Nat
 clo:FuncId
 body:ACode
 deriving Inhabited
def lowerFD (P:Program) (f:FuncId):Option AFnD :=
 match P.funcs[f]? with
 | some fn=>match fn.body with
   | some (.seq a (.seq (.region _ ops false) b)) => bif fn.name == "runtime.NumGoroutine" then none else
     match ops.toList with
     | [⟨some t,.makeFunc (.func g) fi ca,_,_,_,none⟩,⟨none,.defer ⟨.value (.tmp t'),az,_⟩,_,_,_,none⟩] =>
       bif Nat.beq t t' && fi.isEmpty && az.isEmpty && Nat.blt t fn.ntmps then
        match lowerC P fn.ntmps a,lowerC P fn.ntmps b,optAll (fun (r:ResultVar)=>match r with|.tmp t=>some (ARes.t t)|.cell a t=>(szOf P t).map fun q=>.c a q.1 q.2) fn.results.toList with
        | some x,some y,some r=>some ⟨fn.ntmps,r,x,t,g,y⟩
        | _,_,_=>none
       else none
     | _=>none
   | _=>none
 | none=>none
def Idle (P:Program) (g:FuncId):Prop:=Callable P g∧∀ (args:Array Value) (w:World),CallsD P g args .returning w fun e u' w'=>e=.returned (.tuple #[])∧u'=.returning∧w'=w
theorem acalls_defer {P:Program} {f:FuncId} {F:AFnD} {args:List AV} {r:AV} (hF:lowerFD P f=some F) (hlen:args.length≤F.N) (hidle:Idle P F.clo)
 (h:∀ C:Ctx,Pure C F.N→AW P C F.pre (fun e s=>match e with|.normal=>∀ ds,AW P { C with ds:=ds } F.body (retQ F.res r) ⟨(F.t,.any)::s.t,s.h,s.nx⟩|_=>False) ⟨argT 0 args,[],0⟩):ACalls P f args r:=by
 simp only [lowerFD] at hF
 split at hF
 case h_2=>cases hF
 rename_i fn hfn
 split at hF
 case h_2=>cases hF
 rename_i a id ops b hb
 cases hnm : (fn.name == "runtime.NumGoroutine") with
 | true=>rw [hnm] at hF; cases hF
 | false =>
 rw [hnm,cond_false] at hF
 split at hF
 case h_2=>cases hF
 rename_i t g fi ca ty1 pos1 af1 t' az tys ty2 pos2 af2 hops
 cases hcond:(Nat.beq t t' && fi.isEmpty && az.isEmpty && Nat.blt t fn.ntmps) with
 | false=>rw [hcond] at hF; cases hF
 | true =>
 rw [hcond,cond_true] at hF
 simp only [Bool.and_eq_true] at hcond
 obtain ⟨⟨⟨q1,q2⟩,q3⟩,q4⟩:=hcond
 have q1:=Nat.eq_of_beq_eq_true q1
 subst q1
 have hfi:fi = #[]:=by simpa using q2
 have has:az = #[]:=by simpa using q3
 subst hfi has
 have q4:t<fn.ntmps:=by simpa [Nat.blt_eq] using q4
 split at hF
 case h_2=>cases hF
 rename_i x y res hx hy hres
 simp only [Option.some.injEq] at hF
 subst hF
 simp only at hlen h hidle
 refine ⟨⟨fn,hfn,hnm,by rw [hb]; rfl⟩,?_⟩
 intro im w vs hlt hrd
 let E0:Env:=⟨im,fun _=>False,fun _=>undef,fun _=>0⟩
 let C:Ctx:=⟨fun _=>False,w,fn.ntmps,E0,0,[]⟩
 have hC:Pure C fn.ntmps:=⟨fun _ h=>h,rfl,rfl,rfl⟩
 have hvl:vs.length=args.length:=hrd.length
 have hR:Rel C E0 ⟨argT 0 args,[],0⟩ { tmps:=vs.toArray++Array.replicate (fn.ntmps - vs.toArray.size) undef,defers:=[] } w:=by
  refine ⟨rfl,?_,fun n => ?_,⟨fun id o h=>h.elim,fun id id' o o' b h=>h.elim,fun id o b h=>h.elim,hlt⟩,fun id h=>h.elim,fun id o b h=>h.elim,fun id h=>absurd h (Nat.not_lt_zero _),fun b h=>h,fun b h=>.inl h,⟨rfl,rfl,rfl,Nat.le_refl _,fun _ _ _=>rfl⟩⟩
  ·show (vs.toArray++Array.replicate (fn.ntmps - vs.toArray.size) undef).size=fn.ntmps
   simp; omega
  ·have:=getT_args (E:=E0) (w:=w) args vs 0 n (RdIL.rd _ _ hrd)
   rw [if_pos (Nat.zero_le _),Nat.sub_zero] at this
   have e:(vs.toArray++Array.replicate (fn.ntmps - vs.toArray.size) undef).getD n undef=vs.getD n undef:=by
    simp only [Array.getD_eq_getD_getElem?,List.getD_eq_getElem?_getD,Array.getElem?_append]
    by_cases hn:n<vs.length
    ·simp [hn]
    ·rw [if_neg (by simpa using hn)]
     rw [List.getElem?_eq_none (by omega)]
     simp only [Array.getElem?_replicate]
     split<;>rfl
   show Rd E0 w (getT (argT 0 args) n) ((vs.toArray++Array.replicate (fn.ntmps - vs.toArray.size) undef).getD n undef)
   rw [e]; exact this
 refine calls_of_wp_defers hfn hb (wp_seq (wp_mono (h C hC a hx E0 _ w hR) ?_))
 rintro e a1 w1 ⟨E1,s1,h1,R1⟩
 cases e with
 | normal =>
   refine wp_seq ?_
   refine wp_region_list ?_
   rw [hops]
   have hd0:a1.defers=[]:=R1.defers
   let cap:Array Value:=ca.map a1.eval
   let v1:Value:=.func (.func g) #[] cap
   let a2:Act:=a1.put (some t) v1
   have hrun1:(execOp a1.eval ⟨some t,.makeFunc (.func g) #[] ca,ty1,pos1,af1,none⟩).run P w1=.ok (.value v1) w1:=by
    simp [execOp,Instr.makeFunc,v1,cap]
   have hev:a2.eval (.tmp t)=v1:=by
    have hsz:=R1.size
    simp only [a2,Act.put,Act.eval]
    have:t<a1.tmps.size:=by rw [hsz]; exact q4
    simp [this]
   have hrun2:(execOp a2.eval ⟨none,.defer ⟨.value (.tmp t), #[],tys⟩,ty2,pos2,af2,none⟩).run P w1=.ok (.defer { target:=.fn (.func g) cap,args := #[] }) w1:=by
    simp only [execOp,resolve,hev,v1,Deferred.ofValue,Sem.run_bind,Sem.run_pure,Result.andThen_ok]
    simp
   have hb2:b.wp P (bodyPostD P fn fun e w'=>∃ v im',e=.returned v∧RdI im' w' r v∧(∀ b,im b→im' b)∧(∀ b,im' b→im b∨w.heap.size≤b)∧(∀ b,im' b→b<w'.heap.size)∧Below w.heap.size w w') ({ a2 with defers:={ target:=.fn (.func g) cap,args := #[] }::a2.defers }.put none undef) w1:=by
    have ha2:a2.defers=[]:=by rw [show a2.defers=a1.defers from put_defers _ _ _]; exact hd0
    let C':Ctx:={ C with ds:=[{ target:=.fn (.func g) cap,args := #[] }] }
    have Rp:=R1.put (d:=some t) (fun k hk=>by simp only [Option.some.injEq] at hk; subst hk; exact q4) (v:=.any) (u:=v1) trivial
    have R2:Rel C' E1 ⟨(t,.any)::s1.t,s1.h,s1.nx⟩ { a2 with defers:={ target:=.fn (.func g) cap,args := #[] }::a2.defers } w1 :=
     ⟨by simp only [ha2]; rfl,Rp.size,Rp.tm,Rp.heap,Rp.nx,Rp.own,Rp.ext,Rp.imx,Rp.imn,Rp.frm⟩
    refine wp_mono (h1 _ b hy E1 _ w1 R2) ?_
    rintro e a' w' ⟨E',s,hq,hR'⟩
    have fin:Ret res r s→Leaves P fn a'.tmps (fun e w'=>∃ v im',e=.returned v∧RdI im' w' r v∧(∀ b,im b→im' b)∧(∀ b,im' b→im b∨w.heap.size≤b)∧(∀ b,im' b→b<w'.heap.size)∧Below w.heap.size w w') a'.defers .returning w':=by
     rintro ⟨r0,r1,h1,h2,h3⟩
     have hds:a'.defers=[{ target:=.fn (.func g) cap,args := #[] }]:=hR'.defers
     rw [hds]
     obtain ⟨⟨gn,hgn,hgname,hgb⟩,hid⟩:=hidle
     refine leaves_cons (f:=g) (args := #[]++cap) (by simp) ?_ ?_
     ·have hcf:(callFunc g (#[]++cap)).run P w'=.ok (.enter g (#[]++cap)) w':=callFunc_run hgn hgname hgb
      simp only [invoke]
      exact hcf
     ·refine (hid _ w').mono ?_
      rintro e u' w'' ⟨rfl,rfl,rfl⟩
      obtain ⟨v,hv,hr⟩:=run_results hR' hres h1
      refine ⟨v,hv,v,imV false E' s.h,rfl,h3 _ _ _ (view_rd hR'.heap 4 _ _ _ hr h2),fun b hb=>.inl (hR'.imx b hb),?_,?_,?_⟩
      ·rintro b (hb|⟨id,o,k1,k2,k3,_⟩)
       ·rcases hR'.imn b hb with h|h|h
        ·exact .inl h
        ·exact .inr h
        ·exact h.elim
       ·rcases hR'.own id o b k1 k2 k3 with h|h
        ·exact .inr h
        ·exact h.elim
      ·rintro b (hb|⟨id,o,k1,k2,k3,_⟩)
       ·exact hR'.heap.lt b hb
       ·exact hR'.heap.blk_lt k1 k2 k3
      ·exact ⟨hR'.frm.os,hR'.frm.tape,hR'.frm.output,hR'.frm.size,fun k hk=>hR'.frm.block k hk (fun h=>h)⟩
    cases e with
    | normal=>exact fin hq
    | ret=>exact fin hq
    | _=>exact hq.elim
   refine wpList_step fun K hK => ?_
   rw [if_pos (by rfl)]
   unfold Oper.wp
   rw [hrun1,Oper.upon_value]
   refine hK _ _ ?_
   refine wpList_step fun K2 hK2 => ?_
   rw [if_pos (by rfl)]
   unfold Oper.wp
   have hrun2':=hrun2
   simp only [a2] at hrun2'
   rw [hrun2',Oper.upon_defer]
   refine hK2 _ _ ?_
   exact hb2
 | _=>exact h1.elim
abbrev labV (a:Nat):AV:=.lit (.int .u64 (a:Nat))
theorem u64_nat (n:Nat) (h:n<18446744073709551616):IntKind.u64.wrap (n:Int)=n:=IntWalk.u64_in _ (by omega)
theorem join_a (a b:Nat) (ha:a<18446744073709551616) (hb:b<18446744073709551616):ACalls Tryz.prog 30 [labV a,labV b] (labV (a ||| b)):=by
 have e:bits .or .u64 (a:Int) (b:Int)=((a ||| b:Nat):Int):=u64_or_nat a b ha hb
 refine acalls_of code_label_Join (by simp [fn_label_Join]) fun C hC => ?_
 refine walk ?_
 refine ⟨_,_,rfl,rfl,?_⟩
 rw [labV,← e]
 exact Sub.refl _
theorem bit_a (n:Nat) (hn:n≤63):ACalls Tryz.prog 33 [.lit (.int .i64 n)] (labV (2 ^ n)):=by
 refine acalls_of code_scrimref01_Bit (by simp [fn_scrimref01_Bit]) fun C hC => ?_
 refine walk ?_
 refine aw_loop (X:=Nat) (fun k=>⟨[(0,.lit (.int .i64 n)),(2,.lit (.int .u64 0)),(3,.lit (.int .u64 (2 ^ k:Nat))),(4,.lit (.int .i64 k))],[],0⟩) (fun k=>k≤n) (fun k=>n - k) 0 (wk hC [] [0,2,3,4] 0) (Nat.zero_le _) ?_
 intro k hk
 by_cases hlt:k<n
 ·refine walk ?_
  refine ⟨k+1,by omega,by omega,wk hC [] [0,2,3,4] 0 ?_⟩
  have e:IntKind.u64.wrap ((2 ^ k:Nat) * 2)=(2 ^ (k+1):Nat):=by
   have:2 ^ (k+1)≤2 ^ 63:=Nat.pow_le_pow_right (by omega) (by omega)
   rw [Nat.pow_succ] at this ⊢
   rw [IntWalk.u64_in _ (by omega)]; omega
  rw [← e]; rfl
 ·refine walk ?_
  obtain rfl:k=n:=by omega
  exact ⟨_,_,rfl,rfl,Sub.refl _⟩
theorem has_a (a n:Nat) (ha:a<18446744073709551616) (hn:n≤63):ACalls Tryz.prog 32 [labV a,.lit (.int .i64 n)] (.lit (.bool (a.testBit n))):=by
 refine acalls_of code_scrimref01_Has (by simp [fn_scrimref01_Has]) fun C hC => ?_
 refine walk ?_
 refine aw_loop (X:=Nat) (fun k=>⟨[(0,labV (a / 2 ^ k)),(1,.lit (.int .i64 n)),(4,.lit (.bool false)),(5,.lit (.int .i64 k))],[],0⟩) (fun k=>k≤n) (fun k=>n - k) 0 (wk hC [] [0,1,4,5] 0 (by simp; rfl)) (Nat.zero_le _) ?_
 intro k hk
 have hlt':a / 2 ^ k<18446744073709551616:=Nat.lt_of_le_of_lt (Nat.div_le_self _ _) ha
 by_cases hlt:k<n
 ·refine walk ?_
  refine ⟨k+1,by omega,by omega,wk hC [] [0,1,4,5] 0 ?_⟩
  have e:IntKind.u64.wrap (((a / 2 ^ k:Nat):Int).tdiv 2)=((a / 2 ^ (k+1):Nat):Int):=by
   have h1:((a / 2 ^ k:Nat):Int).tdiv 2=((a / 2 ^ k / 2:Nat):Int):=rfl
   rw [h1,div_pow_succ]
   exact u64_nat _ (Nat.lt_of_le_of_lt (Nat.div_le_self _ _) ha)
  have e':labV (a / 2 ^ (k+1))=.lit (.int .u64 (IntKind.u64.wrap (((a / 2 ^ k:Nat):Int).tdiv 2))):=by rw [e]
  rw [e']; rfl
 ·refine walk ?_
  obtain rfl:k=n:=by omega
  refine ⟨_,_,rfl,rfl,?_⟩
  have e:(((a / 2 ^ k:Nat):Int).tmod 2 == 1)=a.testBit k:=by
   have h1:((a / 2 ^ k:Nat):Int).tmod 2=((a / 2 ^ k % 2:Nat):Int):=rfl
   rw [h1,Nat.testBit_eq_decide_div_mod_eq,Bool.eq_iff_iff]
   simp only [beq_iff_eq,decide_eq_true_eq]
   omega
  rw [← e]
  exact Sub.refl _
def subK (a b k:Nat):Prop:=∀ i,i<k→a.testBit i=true→b.testBit i=true
theorem rflows_a (a b:Nat) (ha:a<18446744073709551616) (hb:b<18446744073709551616):ACalls Tryz.prog 10 [labV a,labV b] (.lit (.bool (flowsN a b))):=by
 refine acalls_of code_scrimref01_Flows (by simp [fn_scrimref01_Flows]) fun C hC => ?_
 refine walk ?_
 refine aw_loop (X:=Nat) (fun k=>⟨[(0,labV a),(1,labV b),(4,.lit (.bool false)),(5,.lit (.int .i64 k))],[],0⟩) (fun k=>k≤64∧subK a b k) (fun k=>64 - k) 0 (wk hC [] [0,1,4,5] 0) ⟨Nat.zero_le _,fun i hi=>by omega⟩ ?_
 rintro k ⟨hk,hs⟩
 by_cases hlt:k<64
 ·refine walk ?_
  refine aw_reg (rrun ?_)
  refine r_call (has_a a k ha (by omega)) ?_
  cases h1:a.testBit k
  ·refine rrun ?_
   refine rg_nil ⟨rfl,?_⟩
   refine walk ?_
   refine ⟨k+1,by omega,⟨by omega,fun i hi hi' => ?_⟩,wk hC [] [0,1,4,5] 0⟩
   by_cases e:i=k
   ·subst e; rw [h1] at hi'; cases hi'
   ·exact hs i (by omega) hi'
  ·refine rrun ?_
   refine r_call (has_a b k hb (by omega)) ?_
   cases h2:b.testBit k
   ·refine rrun ?_
    refine rg_nil ⟨rfl,?_⟩
    refine walk ?_
    have:flowsN a b=false:=by
     cases hf:flowsN a b
     ·rfl
     ·have:=(flowsN_iff ha).1 hf k hlt h1; rw [h2] at this; cases this
    rw [this]
    exact ⟨_,_,rfl,rfl,Sub.refl _⟩
   ·refine rrun ?_
    refine rg_nil ⟨rfl,?_⟩
    refine walk ?_
    refine ⟨k+1,by omega,⟨by omega,fun i hi hi' => ?_⟩,wk hC [] [0,1,4,5] 0⟩
    by_cases e:i=k
    ·subst e; exact h2
    ·exact hs i (by omega) hi'
 ·refine walk ?_
  obtain rfl:k=64:=by omega
  have:flowsN a b=true:=(flowsN_iff ha).2 hs
  rw [this]
  exact ⟨_,_,rfl,rfl,Sub.refl _⟩
theorem rjoin_a (a b:Nat) (ha:a<18446744073709551616) (hb:b<18446744073709551616):ACalls Tryz.prog 12 [labV a,labV b] (labV (a ||| b)):=by
 refine acalls_of code_scrimref01_Join (by simp [fn_scrimref01_Join]) fun C hC => ?_
 refine walk ?_
 refine aw_loop (X:=Nat) (fun k=>⟨[(0,labV a),(1,labV b),(4,.lit (.int .u64 0)),(5,labV ((a ||| b) % 2 ^ k)),(6,.lit (.int .i64 k))],[],0⟩) (fun k=>k≤64) (fun k=>64 - k) 0 (wk hC [] [0,1,4,5,6] 0 (by rw [Nat.pow_zero,Nat.mod_one]; rfl)) (Nat.zero_le _) ?_
 intro k hk
 by_cases hlt:k<64
 ·refine walk ?_
  have hbit:(a ||| b).testBit k=true→labV ((a ||| b) % 2 ^ (k+1))=.lit (.int .u64 (IntKind.u64.wrap (((a ||| b) % 2 ^ k:Nat)+(2 ^ k:Nat)))):=fun h=>by
   rw [mod_step,if_pos h]
   have:=mod_step_lt (a ||| b) k hlt
   rw [show (((a ||| b) % 2 ^ k:Nat):Int)+((2 ^ k:Nat):Int)=(((a ||| b) % 2 ^ k+2 ^ k:Nat):Int) from rfl,u64_nat _ (by omega)]
  have hno:(a ||| b).testBit k=false→(a ||| b) % 2 ^ (k+1)=(a ||| b) % 2 ^ k:=fun h=>by rw [mod_step,h]; simp
  refine aw_reg (rrun ?_)
  refine r_call (has_a a k ha (by omega)) ?_
  cases h1:a.testBit k
  ·refine rrun ?_
   refine r_call (has_a b k hb (by omega)) ?_
   cases h2:b.testBit k
   ·refine rrun ?_
    refine rg_nil ⟨rfl,?_⟩
    refine walk ?_
    refine ⟨k+1,by omega,by omega,wk hC [] [0,1,4,5,6] 0 ?_⟩
    rw [hno (by rw [Nat.testBit_or,h1,h2]; rfl)]; rfl
   ·refine rrun ?_
    refine rg_nil ⟨rfl,?_⟩
    refine walk ?_
    refine aw_reg (rrun ?_)
    refine r_call (bit_a k (by omega)) (rrun ?_)
    refine rg_nil ⟨rfl,?_⟩
    refine walk ?_
    refine ⟨k+1,by omega,by omega,wk hC [] [0,1,4,5,6] 0 ?_⟩
    rw [hbit (by rw [Nat.testBit_or,h1,h2]; rfl)]; rfl
  ·refine rrun ?_
   refine rg_nil ⟨rfl,?_⟩
   refine walk ?_
   refine aw_reg (rrun ?_)
   refine r_call (bit_a k (by omega)) (rrun ?_)
   refine rg_nil ⟨rfl,?_⟩
   refine walk ?_
   refine ⟨k+1,by omega,by omega,wk hC [] [0,1,4,5,6] 0 ?_⟩
   rw [hbit (by rw [Nat.testBit_or,h1]; rfl)]; rfl
 ·refine walk ?_
  obtain rfl:k=64:=by omega
  rw [mod_64 (or_lt a b ha hb)]
  exact ⟨_,_,rfl,rfl,Sub.refl _⟩
theorem know_sl {E:Env} {w:World} {sz:Nat} {es:List (List AV)} {v:Value} (h:Rd E w (.sl sz es) v):es.length≤281474976710656:=by
 obtain ⟨a,cap,vs,_,_,_,h,_⟩:=h
 exact h
theorem intsA_len (k:IntKind) (zs:List Int):((intsA k zs).length:Int)=zs.length:=by simp [intsA]
theorem take_step {α:Type} [BEq α] [LawfulBEq α] {xs ys:List α} {k:Nat} {x y:α} (hx:xs[k]? = some x) (hy:ys[k]? = some y) (h:xs.take k=ys.take k) (e:x=y):xs.take (k+1)=ys.take (k+1):=by
 rw [List.take_add_one,List.take_add_one,hx,hy,h,e]
theorem intsP_ne {xs ys:List Int} {k:Nat} {x y:Int} (hx:xs[k]? = some x) (hy:ys[k]? = some y) (e:¬ x=y):intsP xs ys=false:=by
 cases h:intsP xs ys
 ·rfl
 ·have:=eq_of_beq h
  subst this
  rw [hx] at hy
  exact absurd (Option.some.inj hy) e
theorem intsP_len {xs ys:List Int} (h:¬ xs.length=ys.length):intsP xs ys=false:=by
 cases e:intsP xs ys
 ·rfl
 ·exact absurd (congrArg List.length (eq_of_beq e)) h
theorem intsP_end {xs ys:List Int} {k:Nat} (hk:¬ k<xs.length) (hl:xs.length=ys.length) (h:xs.take k=ys.take k):intsP xs ys=true:=by
 rw [List.take_of_length_le (by omega),List.take_of_length_le (by omega)] at h
 subst h
 exact beq_self_eq_true _
theorem equalInt_a (xs ys:List Int):ACalls Tryz.prog 88 [.sl 1 (intsA .i64 xs),.sl 1 (intsA .i64 ys)] (.lit (.bool (intsP xs ys))):=by
 have lx:=intsA_len .i64 xs
 have ly:=intsA_len .i64 ys
 refine acalls_of code_slices_Equal_int (by simp [fn_slices_Equal_int]) fun C hC => ?_
 refine aw_know 0 ((intsA .i64 xs).length≤281474976710656) (fun E w v h=>know_sl h) fun hx => ?_
 refine aw_know 1 ((intsA .i64 ys).length≤281474976710656) (fun E w v h=>know_sl h) fun hy => ?_
 by_cases hl:xs.length=ys.length
 ·refine walk ?_
  refine aw_loop (X:=Nat) (fun k=>⟨[(0,.sl 1 (intsA .i64 xs)),(1,.sl 1 (intsA .i64 ys)),(4,.lit (.bool false)),(12,.lit (.int .i64 xs.length)),(13,.lit (.int .i64 k))],[],0⟩) (fun k=>k≤xs.length∧xs.take k=ys.take k) (fun k=>xs.length - k) 0 (wk hC [] [0,1,4,12,13] 0) ⟨Nat.zero_le _,rfl⟩ ?_
  rintro k ⟨hk,hs⟩
  by_cases hlt:k<xs.length
  ·obtain ⟨x,hx'⟩:∃ x,xs[k]? = some x:=⟨_,List.getElem?_eq_getElem hlt⟩
   obtain ⟨y,hy'⟩:∃ y,ys[k]? = some y:=⟨_,List.getElem?_eq_getElem (by omega)⟩
   have hxk:=int_at (k:=.i64) hx'
   have hyk:=int_at (k:=.i64) hy'
   by_cases e:x=y
   ·refine walk ?_
    exact ⟨k+1,by omega,⟨by omega,take_step hx' hy' hs e⟩,wk hC [] [0,1,4,12,13] 0⟩
   ·refine walk ?_
    rw [intsP_ne hx' hy' e]
    exact ⟨_,_,rfl,rfl,Sub.refl _⟩
  ·refine walk ?_
   rw [intsP_end hlt hl hs]
   exact ⟨_,_,rfl,rfl,Sub.refl _⟩
 ·refine walk ?_
  rw [intsP_len hl]
  exact ⟨_,_,rfl,rfl,Sub.refl _⟩
theorem equalU32_a (xs ys:List Int):ACalls Tryz.prog 154 [.sl 1 (intsA .u32 xs),.sl 1 (intsA .u32 ys)] (.lit (.bool (intsP xs ys))):=by
 have lx:=intsA_len .u32 xs
 have ly:=intsA_len .u32 ys
 refine acalls_of code_slices_Equal_uint32 (by simp [fn_slices_Equal_uint32]) fun C hC => ?_
 refine aw_know 0 ((intsA .u32 xs).length≤281474976710656) (fun E w v h=>know_sl h) fun hx => ?_
 refine aw_know 1 ((intsA .u32 ys).length≤281474976710656) (fun E w v h=>know_sl h) fun hy => ?_
 by_cases hl:xs.length=ys.length
 ·refine walk ?_
  refine aw_loop (X:=Nat) (fun k=>⟨[(0,.sl 1 (intsA .u32 xs)),(1,.sl 1 (intsA .u32 ys)),(4,.lit (.bool false)),(12,.lit (.int .i64 xs.length)),(13,.lit (.int .i64 k))],[],0⟩) (fun k=>k≤xs.length∧xs.take k=ys.take k) (fun k=>xs.length - k) 0 (wk hC [] [0,1,4,12,13] 0) ⟨Nat.zero_le _,rfl⟩ ?_
  rintro k ⟨hk,hs⟩
  by_cases hlt:k<xs.length
  ·obtain ⟨x,hx'⟩:∃ x,xs[k]? = some x:=⟨_,List.getElem?_eq_getElem hlt⟩
   obtain ⟨y,hy'⟩:∃ y,ys[k]? = some y:=⟨_,List.getElem?_eq_getElem (by omega)⟩
   have hxk:=int_at (k:=.u32) hx'
   have hyk:=int_at (k:=.u32) hy'
   by_cases e:x=y
   ·refine walk ?_
    exact ⟨k+1,by omega,⟨by omega,take_step hx' hy' hs e⟩,wk hC [] [0,1,4,12,13] 0⟩
   ·refine walk ?_
    rw [intsP_ne hx' hy' e]
    exact ⟨_,_,rfl,rfl,Sub.refl _⟩
  ·refine walk ?_
   rw [intsP_end hlt hl hs]
   exact ⟨_,_,rfl,rfl,Sub.refl _⟩
 ·refine walk ?_
  rw [intsP_len hl]
  exact ⟨_,_,rfl,rfl,Sub.refl _⟩
theorem limbs_a (xs ys:List Int):ACalls Tryz.prog 155 [.sl 1 (intsA .u32 xs),.sl 1 (intsA .u32 ys)] (.lit (.bool (intsP xs ys))):=by
 have lx:=intsA_len .u32 xs
 have ly:=intsA_len .u32 ys
 refine acalls_of code_scrimref02_Same (by simp [fn_scrimref02_Same]) fun C hC => ?_
 refine aw_know 0 ((intsA .u32 xs).length≤281474976710656) (fun E w v h=>know_sl h) fun hx => ?_
 refine aw_know 1 ((intsA .u32 ys).length≤281474976710656) (fun E w v h=>know_sl h) fun hy => ?_
 by_cases hl:xs.length=ys.length
 ·refine walk ?_
  refine aw_loop (X:=Nat) (fun k=>⟨[(0,.sl 1 (intsA .u32 xs)),(1,.sl 1 (intsA .u32 ys)),(4,.lit (.bool false)),(5,.lit (.int .i64 k))],[],0⟩) (fun k=>k≤xs.length∧xs.take k=ys.take k) (fun k=>xs.length - k) 0 (wk hC [] [0,1,4,5] 0) ⟨Nat.zero_le _,rfl⟩ ?_
  rintro k ⟨hk,hs⟩
  by_cases hlt:k<xs.length
  ·obtain ⟨x,hx'⟩:∃ x,xs[k]? = some x:=⟨_,List.getElem?_eq_getElem hlt⟩
   obtain ⟨y,hy'⟩:∃ y,ys[k]? = some y:=⟨_,List.getElem?_eq_getElem (by omega)⟩
   have hxk:=int_at (k:=.u32) hx'
   have hyk:=int_at (k:=.u32) hy'
   by_cases e:x=y
   ·refine walk ?_
    exact ⟨k+1,by omega,⟨by omega,take_step hx' hy' hs e⟩,wk hC [] [0,1,4,5] 0⟩
   ·refine walk ?_
    rw [intsP_ne hx' hy' e]
    exact ⟨_,_,rfl,rfl,Sub.refl _⟩
  ·refine walk ?_
   rw [intsP_end hlt hl hs]
   exact ⟨_,_,rfl,rfl,Sub.refl _⟩
 ·refine walk ?_
  rw [intsP_len hl]
  exact ⟨_,_,rfl,rfl,Sub.refl _⟩
theorem ints_a (xs ys:List Int):ACalls Tryz.prog 34 [.sl 1 (intsA .i64 xs),.sl 1 (intsA .i64 ys)] (.lit (.bool (intsP xs ys))):=by
 have lx:=intsA_len .i64 xs
 have ly:=intsA_len .i64 ys
 refine acalls_of code_scrimref07_Ints (by simp [fn_scrimref07_Ints]) fun C hC => ?_
 refine aw_know 0 ((intsA .i64 xs).length≤281474976710656) (fun E w v h=>know_sl h) fun hx => ?_
 refine aw_know 1 ((intsA .i64 ys).length≤281474976710656) (fun E w v h=>know_sl h) fun hy => ?_
 by_cases hl:xs.length=ys.length
 ·refine walk ?_
  refine aw_loop (X:=Nat) (fun k=>⟨[(0,.sl 1 (intsA .i64 xs)),(1,.sl 1 (intsA .i64 ys)),(4,.lit (.bool false)),(5,.lit (.int .i64 k))],[],0⟩) (fun k=>k≤xs.length∧xs.take k=ys.take k) (fun k=>xs.length - k) 0 (wk hC [] [0,1,4,5] 0) ⟨Nat.zero_le _,rfl⟩ ?_
  rintro k ⟨hk,hs⟩
  by_cases hlt:k<xs.length
  ·obtain ⟨x,hx'⟩:∃ x,xs[k]? = some x:=⟨_,List.getElem?_eq_getElem hlt⟩
   obtain ⟨y,hy'⟩:∃ y,ys[k]? = some y:=⟨_,List.getElem?_eq_getElem (by omega)⟩
   have hxk:=int_at (k:=.i64) hx'
   have hyk:=int_at (k:=.i64) hy'
   by_cases e:x=y
   ·refine walk ?_
    exact ⟨k+1,by omega,⟨by omega,take_step hx' hy' hs e⟩,wk hC [] [0,1,4,5] 0⟩
   ·refine walk ?_
    rw [intsP_ne hx' hy' e]
    exact ⟨_,_,rfl,rfl,Sub.refl _⟩
  ·refine walk ?_
   rw [intsP_end hlt hl hs]
   exact ⟨_,_,rfl,rfl,Sub.refl _⟩
 ·refine walk ?_
  rw [intsP_len hl]
  exact ⟨_,_,rfl,rfl,Sub.refl _⟩
theorem num_a (a b:Num):ACalls Tryz.prog 91 [.agg (numV a),.agg (numV b)] (.lit (.bool (numP a b))):=by
 refine acalls_of code_ratio_Same (by simp [fn_ratio_Same]) fun C hC => ?_
 refine walk ?_
 refine aw_reg (rrun ?_)
 rw [numP]
 cases h1:(a.neg == b.neg)
 ·refine rrun ?_
  refine rg_nil ⟨rfl,?_⟩
  refine walk ?_
  exact ⟨_,_,rfl,rfl,Sub.refl _⟩
 ·refine rrun ?_
  refine r_call (equalU32_a a.top b.top) ?_
  cases h2:intsP a.top b.top
  ·refine rrun ?_
   refine rg_nil ⟨rfl,?_⟩
   refine walk ?_
   exact ⟨_,_,rfl,rfl,Sub.refl _⟩
  ·refine rrun ?_
   refine r_call (equalU32_a a.bot b.bot) (rrun ?_)
   refine rg_nil ⟨rfl,?_⟩
   refine walk ?_
   exact ⟨_,_,rfl,rfl,Sub.refl _⟩
theorem rnum_a (a b:Num):ACalls Tryz.prog 94 [.agg (numV a),.agg (numV b)] (.lit (.bool (numP a b))):=by
 refine acalls_of code_scrimref04_Same (by simp [fn_scrimref04_Same]) fun C hC => ?_
 refine walk ?_
 refine aw_reg (rrun ?_)
 rw [numP]
 cases h1:(a.neg == b.neg)
 ·refine rrun ?_
  refine rg_nil ⟨rfl,?_⟩
  refine walk ?_
  exact ⟨_,_,rfl,rfl,Sub.refl _⟩
 ·refine rrun ?_
  refine r_call (limbs_a a.top b.top) ?_
  cases h2:intsP a.top b.top
  ·refine rrun ?_
   refine rg_nil ⟨rfl,?_⟩
   refine walk ?_
   exact ⟨_,_,rfl,rfl,Sub.refl _⟩
  ·refine rrun ?_
   refine r_call (limbs_a a.bot b.bot) (rrun ?_)
   refine rg_nil ⟨rfl,?_⟩
   refine walk ?_
   exact ⟨_,_,rfl,rfl,Sub.refl _⟩
mutual
def leftA:Arr→Nat→Int→Int
 | .mk s sh cs,d,n=>if d=0 then -1 else leftCs cs d (n - 1 - sh.length)
def leftCs:List Cell→Nat→Int→Int
 | [],_,n=>n
 | c::cs,d,n=>if 0≤n then leftCs cs d (leftC c d n) else n
def leftC:Cell→Nat→Int→Int
 | .mk _ _ nm _ ins,d,n=>leftAs ins (d - 1) (n - 1 - nm.top.length - nm.bot.length)
def leftAs:List Arr→Nat→Int→Int
 | [],_,n=>n
 | a::xs,d,n=>if 0≤n then leftAs xs d (leftA a d n) else n
end
theorem leftCs_neg (cs:List Cell) (d:Nat) (n:Int) (h:n<0):leftCs cs d n=n:=by
 cases cs with
 | nil=>simp [leftCs]
 | cons c cs=>simp only [leftCs]; rw [if_neg (by omega)]
theorem leftAs_neg (xs:List Arr) (d:Nat) (n:Int) (h:n<0):leftAs xs d n=n:=by
 cases xs with
 | nil=>simp [leftAs]
 | cons c cs=>simp only [leftAs]; rw [if_neg (by omega)]
mutual
theorem leftA_range:∀ (A:Arr) (d:Nat) (n:Int),arrOK A→0≤n→n≤4000 → -1000000000000000≤leftA A d n∧leftA A d n≤4000
 | .mk s sh cs,d,n,h,h0,h1=>by
   simp only [arrOK] at h
   have hr:reachBytes=140737488351232:=rfl
   simp only [leftA]
   split
   ·omega
   ·exact leftCs_range cs d _ h.2.2.2.2 (by omega) (by omega)
theorem leftCs_range:∀ (cs:List Cell) (d:Nat) (n:Int),cellsOK cs → -1000000000000000≤n→n≤4000 → -1000000000000000≤leftCs cs d n∧leftCs cs d n≤4000
 | [],d,n,h,h0,h1=>by simp only [leftCs]; omega
 | c::cs,d,n,h,h0,h1=>by
   simp only [cellsOK] at h
   simp only [leftCs]
   split
   ·rename_i hn
    obtain ⟨k1,k2⟩:=leftC_range c d n h.1 hn h1
    exact leftCs_range cs d _ h.2 k1 k2
   ·omega
theorem leftC_range:∀ (c:Cell) (d:Nat) (n:Int),cellOK c→0≤n→n≤4000 → -1000000000000000≤leftC c d n∧leftC c d n≤4000
 | .mk l k nm ch ins,d,n,h,h0,h1=>by
   simp only [cellOK,numOK] at h
   have hr:reachBytes=140737488351232:=rfl
   simp only [leftC]
   exact leftAs_range ins _ _ h.2.2.2.2.2 (by omega) (by omega)
theorem leftAs_range:∀ (xs:List Arr) (d:Nat) (n:Int),arrsOK xs → -1000000000000000≤n→n≤4000 → -1000000000000000≤leftAs xs d n∧leftAs xs d n≤4000
 | [],d,n,h,h0,h1=>by simp only [leftAs]; omega
 | a::xs,d,n,h,h0,h1=>by
   simp only [arrsOK] at h
   simp only [leftAs]
   split
   ·rename_i hn
    obtain ⟨k1,k2⟩:=leftA_range a d n h.1 hn h1
    exact leftAs_range xs d _ h.2 k1 k2
   ·omega
end
def fewP (A:Arr):Bool:=decide (0≤leftA A 12 4000)
theorem cells_len (A:Arr):((A.cells.map cellR).length:Int)=A.cells.length:=by simp
theorem ins_len (c:Cell):((c.ins.map arrR).length:Int)=c.ins.length:=by simp
theorem leftCs_at {cs:List Cell} {k:Nat} {c:Cell} (h:cs[k]? = some c) (d:Nat) (n:Int) (hn:0≤n):leftCs (cs.drop k) d n=leftCs (cs.drop (k+1)) d (leftC c d n):=by
 obtain ⟨hk,rfl⟩:=List.getElem?_eq_some_iff.1 h
 rw [List.drop_eq_getElem_cons hk,leftCs,if_pos hn]
theorem leftAs_at {xs:List Arr} {k:Nat} {a:Arr} (h:xs[k]? = some a) (d:Nat) (n:Int) (hn:0≤n):leftAs (xs.drop k) d n=leftAs (xs.drop (k+1)) d (leftA a d n):=by
 obtain ⟨hk,rfl⟩:=List.getElem?_eq_some_iff.1 h
 rw [List.drop_eq_getElem_cons hk,leftAs,if_pos hn]
theorem cellOK.parts {c:Cell} (h:cellOK c):c.l<18446744073709551616∧numOK c.n∧c.ins.length≤reachBytes∧arrsOK c.ins:=by
 obtain ⟨l,k,n,ch,ins⟩:=c
 simp only [cellOK] at h
 exact ⟨h.1,h.2.2.1,h.2.2.2.2.1,h.2.2.2.2.2⟩
theorem arrOK.parts {A:Arr} (h:arrOK A):A.s<18446744073709551616∧A.shape.length≤reachBytes∧A.cells.length≤reachBytes∧cellsOK A.cells:=by
 obtain ⟨s,sh,cs⟩:=A
 simp only [arrOK] at h
 exact ⟨h.1,h.2.2.1,h.2.2.2.1,h.2.2.2.2⟩
theorem left_a:∀ (d:Nat) (A:Arr) (q n:Int),q=d→d≤12→arrOK A→0≤n→n≤4000→ACalls Tryz.prog 117 [.agg (arrV A),.lit (.int .i64 q),.lit (.int .i64 n)] (.lit (.int .i64 (leftA A d n)))
 | d,A,q,n,hq,hd,hA,hn0,hn1=>by
   have hr:reachBytes=140737488351232:=rfl
   have lsh:=intsA_len .i64 A.shape
   have lcs:=cells_len A
   obtain ⟨a1,a2,a3,a4⟩:=hA.parts
   refine acalls_of code_scrimref08_left (by simp [fn_scrimref08_left]) fun C hC => ?_
   cases d with
   | zero =>
     have e:leftA A 0 n = -1:=by cases A; simp [leftA]
     rw [e]
     refine walk ?_
     exact ⟨_,_,rfl,rfl,Sub.refl _⟩
   | succ d =>
     have e:leftA A (d+1) n=leftCs (A.cells.drop 0) (d+1) (n - 1 - A.shape.length):=by cases A; simp [leftA,Arr.cells,Arr.shape]
     refine walk ?_
     refine aw_loop (X:=Nat × Int) (fun p=>⟨[(1,.lit (.int .i64 q)),(2,.lit (.int .i64 p.2)),(3,.optr 0 0 0),(6,.lit (.int .i64 0)),(7,.lit (.int .i64 p.1))],[(0,some ⟨false,false,26,3,[arrV A]⟩)],1⟩)
      (fun p=>p.1≤A.cells.length∧(-1000000000000000≤p.2∧p.2≤4000)∧leftA A (d+1) n=leftCs (A.cells.drop p.1) (d+1) p.2) (fun p=>A.cells.length - p.1) (0,n - 1 - A.shape.length) (wk hC [(0,0)] [1,2,3,6,7] 1) ⟨Nat.zero_le _,⟨by simp only; omega,by simp only; omega⟩,e⟩ ?_
     rintro ⟨k,nn⟩ ⟨hk,⟨hb1,hb2⟩,hE⟩
     simp only at hk hb1 hb2 hE
     by_cases hlt:k<A.cells.length
     ·by_cases h0:0≤nn
      ·obtain ⟨c,hc⟩:∃ c,A.cells[k]? = some c:=⟨_,List.getElem?_eq_getElem hlt⟩
       have hck:=cell_at hc
       have hcok:=cellsOK_mem.1 a4 c (List.mem_of_getElem? hc)
       obtain ⟨c1,⟨_,_,c2,c3⟩,c4,c5⟩:=hcok.parts
       have ltop:=intsA_len .u32 c.n.top
       have lbot:=intsA_len .u32 c.n.bot
       have lins:=ins_len c
       rw [leftCs_at hc _ _ h0] at hE
       have hE':leftA A (d+1) n=leftCs (A.cells.drop (k+1)) (d+1) (leftAs (c.ins.drop 0) d (nn - 1 - c.n.top.length - c.n.bot.length)):=by rw [hE]; cases c; rfl
       refine walk ?_
       refine aw_loop (X:=Nat × Int) (fun p=>⟨[(1,.lit (.int .i64 q)),(2,.lit (.int .i64 p.2)),(3,.optr 0 0 0),(6,.lit (.int .i64 0)),(7,.lit (.int .i64 k)),(8,.lit (.int .i64 p.1))],[(0,some ⟨false,false,26,3,[arrV A]⟩)],1⟩)
        (fun p=>p.1≤c.ins.length∧(-1000000000000000≤p.2∧p.2≤4000)∧leftA A (d+1) n=leftCs (A.cells.drop (k+1)) (d+1) (leftAs (c.ins.drop p.1) d p.2)) (fun p=>c.ins.length - p.1) (0,nn - 1 - c.n.top.length - c.n.bot.length) (wk hC [(0,0)] [1,2,3,6,7,8] 1) ⟨Nat.zero_le _,⟨by simp only; omega,by simp only; omega⟩,hE'⟩ ?_
       rintro ⟨j,mm⟩ ⟨hj,⟨hm1,hm2⟩,hF⟩
       simp only at hj hm1 hm2 hF
       by_cases hlj:j<c.ins.length
       ·by_cases h2:0≤mm
        ·obtain ⟨a,ha⟩:∃ a,c.ins[j]? = some a:=⟨_,List.getElem?_eq_getElem hlj⟩
         have hak:=arr_at ha
         have haok:=arrsOK_mem.1 c5 a (List.mem_of_getElem? ha)
         rw [leftAs_at ha _ _ h2] at hF
         obtain ⟨r1,r2⟩:=leftA_range a d mm haok h2 hm2
         refine walk ?_
         refine aw_reg (rrun ?_)
         refine r_call (left_a d a (q - 1) mm (by omega) (by omega) haok h2 hm2) (rrun ?_)
         refine rg_nil ⟨rfl,?_⟩
         refine walk ?_
         exact ⟨(j+1,leftA a d mm),by simp only; omega,⟨by simp only; omega,⟨r1,r2⟩,hF⟩,wk hC [(0,0)] [1,2,3,6,7,8] 1⟩
        ·rw [leftAs_neg _ _ _ (by omega)] at hF
         refine walk ?_
         exact ⟨(k+1,mm),by simp only; omega,⟨by simp only; omega,⟨hm1,hm2⟩,hF⟩,wk hC [(0,0)] [1,2,3,6,7] 1⟩
       ·rw [show c.ins.drop j=[] from List.drop_eq_nil_of_le (by omega),leftAs] at hF
        refine walk ?_
        exact ⟨(k+1,mm),by simp only; omega,⟨by simp only; omega,⟨hm1,hm2⟩,hF⟩,wk hC [(0,0)] [1,2,3,6,7] 1⟩
      ·rw [leftCs_neg _ _ _ (by omega)] at hE
       rw [hE]
       refine walk ?_
       exact ⟨_,_,rfl,rfl,Sub.refl _⟩
     ·rw [List.drop_eq_nil_of_le (by omega),leftCs] at hE
      rw [hE]
      refine walk ?_
      exact ⟨_,_,rfl,rfl,Sub.refl _⟩
 termination_by d=>d
theorem few_a (A:Arr) (hA:arrOK A):ACalls Tryz.prog 51 [.agg (arrV A)] (.lit (.bool (fewP A))):=by
 refine acalls_of code_scrimref08_Few (by simp [fn_scrimref08_Few]) fun C hC => ?_
 refine walk ?_
 refine aw_reg (rrun ?_)
 refine r_call (left_a 12 A 12 4000 rfl (by omega) hA (by omega) (by omega)) ?_
 by_cases h:0≤leftA A 12 4000
 ·rw [show fewP A=true from decide_eq_true h]
  refine rrun ?_
  refine rg_nil ⟨rfl,?_⟩
  refine walk ?_
  exact ⟨_,_,rfl,rfl,Sub.refl _⟩
 ·rw [show fewP A=false from decide_eq_false h]
  refine rrun ?_
  refine rg_nil ⟨rfl,?_⟩
  refine walk ?_
  exact ⟨_,_,rfl,rfl,Sub.refl _⟩
theorem sameCs_drop {cs ds:List Cell} (hl:cs.length=ds.length) {k:Nat} {c d:Cell} (hc:cs[k]? = some c) (hd:ds[k]? = some d):sameCs (cs.drop k) (ds.drop k)=(sameC c d && sameCs (cs.drop (k+1)) (ds.drop (k+1))):=by
 obtain ⟨h1,rfl⟩:=List.getElem?_eq_some_iff.1 hc
 obtain ⟨h2,rfl⟩:=List.getElem?_eq_some_iff.1 hd
 rw [List.drop_eq_getElem_cons h1,List.drop_eq_getElem_cons h2,sameCs]
theorem sameAs_drop {cs ds:List Arr} (hl:cs.length=ds.length) {k:Nat} {c d:Arr} (hc:cs[k]? = some c) (hd:ds[k]? = some d):sameAs (cs.drop k) (ds.drop k)=(sameA c d && sameAs (cs.drop (k+1)) (ds.drop (k+1))):=by
 obtain ⟨h1,rfl⟩:=List.getElem?_eq_some_iff.1 hc
 obtain ⟨h2,rfl⟩:=List.getElem?_eq_some_iff.1 hd
 rw [List.drop_eq_getElem_cons h1,List.drop_eq_getElem_cons h2,sameAs]
theorem sameA_eq (A B:Arr):sameA A B=((A.s == B.s) && (intsP A.shape B.shape && sameCs A.cells B.cells)):=by cases A; cases B; simp only [sameA,Arr.s,Arr.shape,Arr.cells]
theorem sameC_eq (c d:Cell):sameC c d=((c.l == d.l) && ((c.kind == d.kind) && ((c.c == d.c) && (numP c.n d.n && sameAs c.ins d.ins)))):=by cases c; cases d; simp only [sameC,Cell.l,Cell.kind,Cell.c,Cell.n,Cell.ins]
theorem cell_size {cs:List Cell} {c:Cell} (h:c ∈ cs):SizeOf.sizeOf c<SizeOf.sizeOf cs:=List.sizeOf_lt_of_mem h
theorem arr_size {cs:List Arr} {c:Arr} (h:c ∈ cs):SizeOf.sizeOf c<SizeOf.sizeOf cs:=List.sizeOf_lt_of_mem h
theorem Arr.size (A:Arr):SizeOf.sizeOf A.cells<SizeOf.sizeOf A:=by cases A; simp [Arr.cells]; omega
theorem Cell.size (c:Cell):SizeOf.sizeOf c.ins<SizeOf.sizeOf c:=by cases c; simp [Cell.ins]; omega
theorem nat_beq_ne {a b:Nat} (h:¬ a=b):(a == b)=false:=by simpa using h
theorem int_beq_ne {a b:Int} (h:¬ a=b):(a == b)=false:=by simpa using h
mutual
theorem same_a:∀ (A B:Arr),arrOK A→arrOK B→ACalls Tryz.prog 19 [.agg (arrV A),.agg (arrV B)] (.lit (.bool (sameA A B)))
 | A,B,hA,hB=>by
   have hr:reachBytes=140737488351232:=rfl
   have la:=cells_len A
   have lb:=cells_len B
   obtain ⟨a1,a2,a3,a4⟩:=hA.parts
   obtain ⟨b1,b2,b3,b4⟩:=hB.parts
   refine acalls_of code_scrimref08_Same (by simp [fn_scrimref08_Same]) fun C hC => ?_
   rw [sameA_eq]
   by_cases h1:A.s=B.s
   ·rw [h1,beq_self_eq_true,Bool.true_and]
    refine walk ?_
    refine aw_reg (rrun ?_)
    refine r_call (ints_a A.shape B.shape) ?_
    cases h2:intsP A.shape B.shape
    ·refine rrun ?_
     refine rg_nil ⟨rfl,?_⟩
     refine walk ?_
     exact ⟨_,_,rfl,rfl,Sub.refl _⟩
    ·rw [Bool.true_and]
     by_cases h3:A.cells.length=B.cells.length
     ·refine rrun ?_
      refine rg_nil ⟨rfl,?_⟩
      refine walk ?_
      refine aw_loop (X:=Nat) (fun k=>⟨[(2,.optr 0 0 0),(3,.optr 1 0 0),(4,.lit (.bool false)),(5,.lit (.int .i64 k))],[(0,some ⟨false,false,26,3,[arrV A]⟩),(1,some ⟨false,false,26,3,[arrV B]⟩)],2⟩)
       (fun k=>k≤A.cells.length∧sameCs A.cells B.cells=sameCs (A.cells.drop k) (B.cells.drop k)) (fun k=>A.cells.length - k) 0 (wk hC [(0,0),(1,1)] [2,3,4,5] 2) ⟨Nat.zero_le _,rfl⟩ ?_
      rintro k ⟨hk,hE⟩
      by_cases hlt:k<A.cells.length
      ·obtain ⟨c,hc⟩:∃ c,A.cells[k]? = some c:=⟨_,List.getElem?_eq_getElem hlt⟩
       obtain ⟨d,hd⟩:∃ d,B.cells[k]? = some d:=⟨_,List.getElem?_eq_getElem (by omega)⟩
       have hck:=cell_at hc
       have hdk:=cell_at hd
       have hcm:=List.mem_of_getElem? hc
       have hcok:=cellsOK_mem.1 a4 c hcm
       have hdok:=cellsOK_mem.1 b4 d (List.mem_of_getElem? hd)
       rw [sameCs_drop h3 hc hd] at hE
       have ht:SizeOf.sizeOf c<SizeOf.sizeOf A:=Nat.lt_trans (cell_size hcm) A.size
       refine walk ?_
       refine aw_reg (rrun ?_)
       refine r_call (sameCell_a c d hcok hdok) ?_
       cases h4:sameC c d
       ·rw [h4,Bool.false_and] at hE
        rw [hE]
        refine rrun ?_
        refine rg_nil ⟨rfl,?_⟩
        refine walk ?_
        exact ⟨_,_,rfl,rfl,Sub.refl _⟩
       ·rw [h4,Bool.true_and] at hE
        refine rrun ?_
        refine rg_nil ⟨rfl,?_⟩
        refine walk ?_
        exact ⟨k+1,by omega,⟨by omega,hE⟩,wk hC [(0,0),(1,1)] [2,3,4,5] 2⟩
      ·rw [List.drop_eq_nil_of_le (by omega),List.drop_eq_nil_of_le (by omega),sameCs] at hE
       rw [hE]
       refine walk ?_
       exact ⟨_,_,rfl,rfl,Sub.refl _⟩
     ·rw [sameCs_len _ _ h3]
      refine rrun ?_
      refine rg_nil ⟨rfl,?_⟩
      refine walk ?_
      exact ⟨_,_,rfl,rfl,Sub.refl _⟩
   ·rw [nat_beq_ne h1,Bool.false_and]
    refine walk ?_
    exact ⟨_,_,rfl,rfl,Sub.refl _⟩
 termination_by A=>SizeOf.sizeOf A
theorem sameCell_a:∀ (A B:Cell),cellOK A→cellOK B→ACalls Tryz.prog 56 [.agg (cellV A),.agg (cellV B)] (.lit (.bool (sameC A B)))
 | A,B,hA,hB=>by
   have hr:reachBytes=140737488351232:=rfl
   have la:=ins_len A
   have lb:=ins_len B
   obtain ⟨a1,a2,a3,a4⟩:=hA.parts
   obtain ⟨b1,b2,b3,b4⟩:=hB.parts
   refine acalls_of code_scrimref08_SameCell (by simp [fn_scrimref08_SameCell]) fun C hC => ?_
   rw [sameC_eq]
   by_cases h1:A.l=B.l
   ·rw [h1,beq_self_eq_true,Bool.true_and]
    by_cases h5:A.kind=B.kind
    ·rw [h5,beq_self_eq_true,Bool.true_and]
     by_cases h6:A.c=B.c
     ·rw [h6,beq_self_eq_true,Bool.true_and]
      refine walk ?_
      refine aw_reg (rrun ?_)
      refine r_call (rnum_a A.n B.n) ?_
      cases h2:numP A.n B.n
      ·refine rrun ?_
       refine rg_nil ⟨rfl,?_⟩
       refine walk ?_
       exact ⟨_,_,rfl,rfl,Sub.refl _⟩
      ·rw [Bool.true_and]
       by_cases h3:A.ins.length=B.ins.length
       ·refine rrun ?_
        refine rg_nil ⟨rfl,?_⟩
        refine walk ?_
        refine aw_loop (X:=Nat) (fun k=>⟨[(2,.optr 0 0 0),(3,.optr 1 0 0),(4,.lit (.bool false)),(5,.lit (.int .i64 k))],[(0,some ⟨false,false,54,7,[cellV A]⟩),(1,some ⟨false,false,54,7,[cellV B]⟩)],2⟩)
         (fun k=>k≤A.ins.length∧sameAs A.ins B.ins=sameAs (A.ins.drop k) (B.ins.drop k)) (fun k=>A.ins.length - k) 0 (wk hC [(0,0),(1,1)] [2,3,4,5] 2) ⟨Nat.zero_le _,rfl⟩ ?_
        rintro k ⟨hk,hE⟩
        by_cases hlt:k<A.ins.length
        ·obtain ⟨c,hc⟩:∃ c,A.ins[k]? = some c:=⟨_,List.getElem?_eq_getElem hlt⟩
         obtain ⟨d,hd⟩:∃ d,B.ins[k]? = some d:=⟨_,List.getElem?_eq_getElem (by omega)⟩
         have hck:=arr_at hc
         have hdk:=arr_at hd
         have hcm:=List.mem_of_getElem? hc
         have hcok:=arrsOK_mem.1 a4 c hcm
         have hdok:=arrsOK_mem.1 b4 d (List.mem_of_getElem? hd)
         rw [sameAs_drop h3 hc hd] at hE
         have ht:SizeOf.sizeOf c<SizeOf.sizeOf A:=Nat.lt_trans (arr_size hcm) A.size
         refine walk ?_
         refine aw_reg (rrun ?_)
         refine r_call (same_a c d hcok hdok) ?_
         cases h4:sameA c d
         ·rw [h4,Bool.false_and] at hE
          rw [hE]
          refine rrun ?_
          refine rg_nil ⟨rfl,?_⟩
          refine walk ?_
          exact ⟨_,_,rfl,rfl,Sub.refl _⟩
         ·rw [h4,Bool.true_and] at hE
          refine rrun ?_
          refine rg_nil ⟨rfl,?_⟩
          refine walk ?_
          exact ⟨k+1,by omega,⟨by omega,hE⟩,wk hC [(0,0),(1,1)] [2,3,4,5] 2⟩
        ·rw [List.drop_eq_nil_of_le (by omega),List.drop_eq_nil_of_le (by omega),sameAs] at hE
         rw [hE]
         refine walk ?_
         exact ⟨_,_,rfl,rfl,Sub.refl _⟩
       ·rw [sameAs_len _ _ h3]
        refine rrun ?_
        refine rg_nil ⟨rfl,?_⟩
        refine walk ?_
        exact ⟨_,_,rfl,rfl,Sub.refl _⟩
     ·rw [int_beq_ne h6,Bool.false_and]
      refine walk ?_
      exact ⟨_,_,rfl,rfl,Sub.refl _⟩
    ·rw [int_beq_ne h5,Bool.false_and]
     refine walk ?_
     exact ⟨_,_,rfl,rfl,Sub.refl _⟩
   ·rw [nat_beq_ne h1,Bool.false_and]
    refine walk ?_
    exact ⟨_,_,rfl,rfl,Sub.refl _⟩
 termination_by A=>SizeOf.sizeOf A
end
abbrev flagV (st:Bool):AV:=.ep 1 [[.lit (.bool st)]] 0 0
def eqL {α:Type} (p:α→α→Bool):List α→List α→Bool
 | [],[]=>true
 | x::xs,y::ys=>p x y && eqL p xs ys
 | _,_=>false
theorem eqL_drop {α:Type} (p:α→α→Bool) {cs ds:List α} {k:Nat} {c d:α} (hc:cs[k]? = some c) (hd:ds[k]? = some d):eqL p (cs.drop k) (ds.drop k)=(p c d && eqL p (cs.drop (k+1)) (ds.drop (k+1))):=by
 obtain ⟨h1,rfl⟩:=List.getElem?_eq_some_iff.1 hc
 obtain ⟨h2,rfl⟩:=List.getElem?_eq_some_iff.1 hd
 rw [List.drop_eq_getElem_cons h1,List.drop_eq_getElem_cons h2,eqL]
theorem eqL_len {α:Type} (p:α→α→Bool):∀ (cs ds:List α),¬ cs.length=ds.length→eqL p cs ds=false
 | [],[],h=>absurd rfl h
 | [],_::_,_=>rfl
 | _::_,[],_=>rfl
 | c::cs,d::ds,h=>by rw [eqL,eqL_len p cs ds (by simpa using h),Bool.and_false]
theorem map_len {α β:Type} (f:α→β) (xs:List α):((xs.map f).length:Int)=xs.length:=by simp
theorem eqCells_a (xs ys:List Cell) (F:FuncId) (st:Bool) (p:Cell→Cell→Bool) (hF:∀ x ∈ xs,∀ y ∈ ys,ACalls Tryz.prog F (.agg (cellV x)::.agg (cellV y)::[flagV st]) (.lit (.bool (p x y)))) :
 ACalls Tryz.prog 89 [.sl 7 (xs.map cellR),.sl 7 (ys.map cellR),.fn F [] [flagV st]] (.lit (.bool (eqL p xs ys))):=by
 have lx:=map_len cellR xs
 have ly:=map_len cellR ys
 refine acalls_of code_slices_EqualFunc_api_Cell (by simp [fn_slices_EqualFunc_api_Cell]) fun C hC => ?_
 refine aw_know 0 ((xs.map cellR).length≤281474976710656) (fun E w v h=>know_sl h) fun hx => ?_
 refine aw_know 1 ((ys.map cellR).length≤281474976710656) (fun E w v h=>know_sl h) fun hy => ?_
 by_cases hl:xs.length=ys.length
 ·refine walk ?_
  refine aw_loop (X:=Nat) (fun k=>⟨[(0,.sl 7 (xs.map cellR)),(1,.sl 7 (ys.map cellR)),(2,.fn F [] [flagV st]),(6,.lit (.bool false)),(15,.sl 7 (xs.map cellR)),(16,.lit (.int .i64 xs.length)),(17,.lit (.int .i64 k))],[],0⟩) (fun k=>k≤xs.length∧eqL p xs ys=eqL p (xs.drop k) (ys.drop k)) (fun k=>xs.length - k) 0 (wk hC [] [0,1,2,6,15,16,17] 0) ⟨Nat.zero_le _,rfl⟩ ?_
  rintro k ⟨hk,hE⟩
  by_cases hlt:k<xs.length
  ·obtain ⟨x,hx'⟩:∃ x,xs[k]? = some x:=⟨_,List.getElem?_eq_getElem hlt⟩
   obtain ⟨y,hy'⟩:∃ y,ys[k]? = some y:=⟨_,List.getElem?_eq_getElem (by omega)⟩
   have hxk:=cell_at hx'
   have hyk:=cell_at hy'
   rw [eqL_drop p hx' hy'] at hE
   refine walk ?_
   refine aw_reg (rrun ?_)
   refine r_call (hF x (List.mem_of_getElem? hx') y (List.mem_of_getElem? hy')) ?_
   cases h4:p x y
   ·rw [h4,Bool.false_and] at hE
    rw [hE]
    refine rrun ?_
    refine rg_nil ⟨rfl,?_⟩
    refine walk ?_
    exact ⟨_,_,rfl,rfl,Sub.refl _⟩
   ·rw [h4,Bool.true_and] at hE
    refine rrun ?_
    refine rg_nil ⟨rfl,?_⟩
    refine walk ?_
    exact ⟨k+1,by omega,⟨by omega,hE⟩,wk hC [] [0,1,2,6,15,16,17] 0⟩
  ·rw [List.drop_eq_nil_of_le (by omega),List.drop_eq_nil_of_le (by omega),eqL] at hE
   rw [hE]
   refine walk ?_
   exact ⟨_,_,rfl,rfl,Sub.refl _⟩
 ·rw [eqL_len p _ _ hl]
  refine walk ?_
  exact ⟨_,_,rfl,rfl,Sub.refl _⟩
theorem eqArrs_a (xs ys:List Arr) (F:FuncId) (st:Bool) (p:Arr→Arr→Bool) (hF:∀ x ∈ xs,∀ y ∈ ys,ACalls Tryz.prog F (.agg (arrV x)::.agg (arrV y)::[flagV st]) (.lit (.bool (p x y)))) :
 ACalls Tryz.prog 92 [.sl 3 (xs.map arrR),.sl 3 (ys.map arrR),.fn F [] [flagV st]] (.lit (.bool (eqL p xs ys))):=by
 have lx:=map_len arrR xs
 have ly:=map_len arrR ys
 refine acalls_of code_slices_EqualFunc_api_Array (by simp [fn_slices_EqualFunc_api_Array]) fun C hC => ?_
 refine aw_know 0 ((xs.map arrR).length≤281474976710656) (fun E w v h=>know_sl h) fun hx => ?_
 refine aw_know 1 ((ys.map arrR).length≤281474976710656) (fun E w v h=>know_sl h) fun hy => ?_
 by_cases hl:xs.length=ys.length
 ·refine walk ?_
  refine aw_loop (X:=Nat) (fun k=>⟨[(0,.sl 3 (xs.map arrR)),(1,.sl 3 (ys.map arrR)),(2,.fn F [] [flagV st]),(6,.lit (.bool false)),(15,.sl 3 (xs.map arrR)),(16,.lit (.int .i64 xs.length)),(17,.lit (.int .i64 k))],[],0⟩) (fun k=>k≤xs.length∧eqL p xs ys=eqL p (xs.drop k) (ys.drop k)) (fun k=>xs.length - k) 0 (wk hC [] [0,1,2,6,15,16,17] 0) ⟨Nat.zero_le _,rfl⟩ ?_
  rintro k ⟨hk,hE⟩
  by_cases hlt:k<xs.length
  ·obtain ⟨x,hx'⟩:∃ x,xs[k]? = some x:=⟨_,List.getElem?_eq_getElem hlt⟩
   obtain ⟨y,hy'⟩:∃ y,ys[k]? = some y:=⟨_,List.getElem?_eq_getElem (by omega)⟩
   have hxk:=arr_at hx'
   have hyk:=arr_at hy'
   rw [eqL_drop p hx' hy'] at hE
   refine walk ?_
   refine aw_reg (rrun ?_)
   refine r_call (hF x (List.mem_of_getElem? hx') y (List.mem_of_getElem? hy')) ?_
   cases h4:p x y
   ·rw [h4,Bool.false_and] at hE
    rw [hE]
    refine rrun ?_
    refine rg_nil ⟨rfl,?_⟩
    refine walk ?_
    exact ⟨_,_,rfl,rfl,Sub.refl _⟩
   ·rw [h4,Bool.true_and] at hE
    refine rrun ?_
    refine rg_nil ⟨rfl,?_⟩
    refine walk ?_
    exact ⟨k+1,by omega,⟨by omega,hE⟩,wk hC [] [0,1,2,6,15,16,17] 0⟩
  ·rw [List.drop_eq_nil_of_le (by omega),List.drop_eq_nil_of_le (by omega),eqL] at hE
   rw [hE]
   refine walk ?_
   exact ⟨_,_,rfl,rfl,Sub.refl _⟩
 ·rw [eqL_len p _ _ hl]
  refine walk ?_
  exact ⟨_,_,rfl,rfl,Sub.refl _⟩
mutual
def eqvA (st:Bool):Arr→Arr→Bool
 | .mk s sh cs,.mk s2 sh2 cs2=>(!st || s == s2) && (intsP sh sh2 && eqvCs st cs cs2)
def eqvCs (st:Bool):List Cell→List Cell→Bool
 | [],[]=>true
 | c::cs,d::ds=>eqvC st c d && eqvCs st cs ds
 | _,_=>false
def eqvC (st:Bool):Cell→Cell→Bool
 | .mk l k n c ins,.mk l2 k2 n2 c2 ins2=>(!st || l == l2) && ((k == k2) && ((c == c2) && (numP n n2 && eqvAs st ins ins2)))
def eqvAs (st:Bool):List Arr→List Arr→Bool
 | [],[]=>true
 | c::cs,d::ds=>eqvA st c d && eqvAs st cs ds
 | _,_=>false
end
theorem eqvCs_eqL (st:Bool):∀ (cs ds:List Cell),eqvCs st cs ds=eqL (eqvC st) cs ds
 | [],[]=>by simp [eqvCs,eqL]
 | [],_::_=>by simp [eqvCs,eqL]
 | _::_,[]=>by simp [eqvCs,eqL]
 | c::cs,d::ds=>by rw [eqvCs,eqL,eqvCs_eqL st cs ds]
theorem eqvAs_eqL (st:Bool):∀ (cs ds:List Arr),eqvAs st cs ds=eqL (eqvA st) cs ds
 | [],[]=>by simp [eqvAs,eqL]
 | [],_::_=>by simp [eqvAs,eqL]
 | _::_,[]=>by simp [eqvAs,eqL]
 | c::cs,d::ds=>by rw [eqvAs,eqL,eqvAs_eqL st cs ds]
theorem eqvA_eq (st:Bool) (A B:Arr):eqvA st A B=((!st || A.s == B.s) && (intsP A.shape B.shape && eqL (eqvC st) A.cells B.cells)):=by cases A; cases B; simp only [eqvA,Arr.s,Arr.shape,Arr.cells,eqvCs_eqL]
theorem eqvC_eq (st:Bool) (c d:Cell):eqvC st c d=((!st || c.l == d.l) && ((c.kind == d.kind) && ((c.c == d.c) && (numP c.n d.n && eqL (eqvA st) c.ins d.ins)))):=by cases c; cases d; simp only [eqvC,Cell.l,Cell.kind,Cell.c,Cell.n,Cell.ins,eqvAs_eqL]
theorem flag_no {st:Bool} {a b:Nat} (h:false=(!st || a == b)):st=true∧¬ a=b:=by
 cases st
 ·cases h
 ·exact ⟨rfl,fun e=>by simp [e] at h⟩
theorem flag_yes {st:Bool} {a b:Nat} (h:true=(!st || a == b)):st=false∨(st=true∧a=b):=by
 cases st
 ·exact .inl rfl
 ·exact .inr ⟨rfl,by simpa using h⟩
mutual
theorem equal_a (st:Bool):∀ (A B:Arr),ACalls Tryz.prog 31 [.agg (arrV A),.agg (arrV B),.lit (.bool st)] (.lit (.bool (eqvA st A B)))
 | A,B=>by
   have sub:∀ x ∈ A.cells,∀ y ∈ B.cells,ACalls Tryz.prog 90 [.agg (cellV x),.agg (cellV y),flagV st] (.lit (.bool (eqvC st x y))):=fun x hx y hy=>by
    have ht:SizeOf.sizeOf x<SizeOf.sizeOf A:=Nat.lt_trans (cell_size hx) A.size
    exact equal1_a st x y
   refine acalls_of code_array_equal (by simp [fn_array_equal]) fun C hC => ?_
   rw [eqvA_eq]
   have key:∀ (b:Bool),b=(!st || A.s == B.s)→AW Tryz.prog C fn_array_equal.body (retQ fn_array_equal.res (.lit (.bool (b && (intsP A.shape B.shape && eqL (eqvC st) A.cells B.cells))))) ⟨argT 0 [.agg (arrV A),.agg (arrV B),.lit (.bool st)],[],0⟩:=by
    intro b hb
    cases b
    ·obtain ⟨rfl,hne⟩:st=true∧¬ A.s=B.s:=flag_no hb
     refine walk ?_
     exact ⟨_,_,rfl,rfl,Sub.refl _⟩
    ·rw [Bool.true_and]
     have rest:st=false∨(st=true∧A.s=B.s):=flag_yes hb
     rcases rest with rfl|⟨rfl,he⟩
     ·refine walk ?_
      refine aw_reg (rrun ?_)
      refine r_call (equalInt_a A.shape B.shape) ?_
      cases h2:intsP A.shape B.shape
      ·refine rrun ?_
       refine rg_nil ⟨rfl,?_⟩
       refine walk ?_
       exact ⟨_,_,rfl,rfl,Sub.refl _⟩
      ·rw [Bool.true_and]
       refine rrun ?_
       refine rg_nil ⟨rfl,?_⟩
       refine walk ?_
       refine aw_reg (rrun ?_)
       refine r_callX false [2] (eqCells_a A.cells B.cells _ false _ sub) (rrun ?_)
       refine rg_nil ⟨rfl,?_⟩
       refine walk ?_
       exact ⟨_,_,rfl,rfl,Sub.refl _⟩
     ·refine walk ?_
      refine aw_reg (rrun ?_)
      refine r_call (equalInt_a A.shape B.shape) ?_
      cases h2:intsP A.shape B.shape
      ·refine rrun ?_
       refine rg_nil ⟨rfl,?_⟩
       refine walk ?_
       exact ⟨_,_,rfl,rfl,Sub.refl _⟩
      ·rw [Bool.true_and]
       refine rrun ?_
       refine rg_nil ⟨rfl,?_⟩
       refine walk ?_
       refine aw_reg (rrun ?_)
       refine r_callX false [2] (eqCells_a A.cells B.cells _ true _ sub) (rrun ?_)
       refine rg_nil ⟨rfl,?_⟩
       refine walk ?_
       exact ⟨_,_,rfl,rfl,Sub.refl _⟩
   exact key _ rfl
 termination_by A=>SizeOf.sizeOf A
theorem equal1_a (st:Bool):∀ (A B:Cell),ACalls Tryz.prog 90 [.agg (cellV A),.agg (cellV B),flagV st] (.lit (.bool (eqvC st A B)))
 | A,B=>by
   have sub:∀ x ∈ A.ins,∀ y ∈ B.ins,ACalls Tryz.prog 93 [.agg (arrV x),.agg (arrV y),flagV st] (.lit (.bool (eqvA st x y))):=fun x hx y hy=>by
    have ht:SizeOf.sizeOf x<SizeOf.sizeOf A:=Nat.lt_trans (arr_size hx) A.size
    have rec_:=equal_a st x y
    refine acalls_of code_array_equal_1_1 (by simp [fn_array_equal_1_1]) fun C hC => ?_
    refine walk ?_
    refine aw_reg (rrun ?_)
    refine r_call rec_ (rrun ?_)
    refine rg_nil ⟨rfl,?_⟩
    refine walk ?_
    exact ⟨_,_,rfl,rfl,Sub.refl _⟩
   refine acalls_of code_array_equal_1 (by simp [fn_array_equal_1]) fun C hC => ?_
   rw [eqvC_eq]
   have key:∀ (b:Bool),b=(!st || A.l == B.l)→AW Tryz.prog C fn_array_equal_1.body (retQ fn_array_equal_1.res (.lit (.bool (b && ((A.kind == B.kind) && ((A.c == B.c) && (numP A.n B.n && eqL (eqvA st) A.ins B.ins))))))) ⟨argT 0 [.agg (cellV A),.agg (cellV B),flagV st],[],0⟩:=by
    intro b hb
    cases b
    ·obtain ⟨rfl,hne⟩:st=true∧¬ A.l=B.l:=flag_no hb
     refine walk ?_
     exact ⟨_,_,rfl,rfl,Sub.refl _⟩
    ·rw [Bool.true_and]
     by_cases h5:A.kind=B.kind
     ·rw [h5,beq_self_eq_true,Bool.true_and]
      by_cases h6:A.c=B.c
      ·rw [h6,beq_self_eq_true,Bool.true_and]
       have rest:st=false∨(st=true∧A.l=B.l):=flag_yes hb
       rcases rest with rfl|⟨rfl,he⟩
       ·refine walk ?_
        refine aw_reg (rrun ?_)
        refine r_call (num_a A.n B.n) ?_
        cases h2:numP A.n B.n
        ·refine rrun ?_
         refine rg_nil ⟨rfl,?_⟩
         refine walk ?_
         exact ⟨_,_,rfl,rfl,Sub.refl _⟩
        ·rw [Bool.true_and]
         refine rrun ?_
         refine rg_nil ⟨rfl,?_⟩
         refine walk ?_
         refine aw_reg (rrun ?_)
         refine r_call (eqArrs_a A.ins B.ins _ false _ sub) (rrun ?_)
         refine rg_nil ⟨rfl,?_⟩
         refine walk ?_
         exact ⟨_,_,rfl,rfl,Sub.refl _⟩
       ·refine walk ?_
        refine aw_reg (rrun ?_)
        refine r_call (num_a A.n B.n) ?_
        cases h2:numP A.n B.n
        ·refine rrun ?_
         refine rg_nil ⟨rfl,?_⟩
         refine walk ?_
         exact ⟨_,_,rfl,rfl,Sub.refl _⟩
        ·rw [Bool.true_and]
         refine rrun ?_
         refine rg_nil ⟨rfl,?_⟩
         refine walk ?_
         refine aw_reg (rrun ?_)
         refine r_call (eqArrs_a A.ins B.ins _ true _ sub) (rrun ?_)
         refine rg_nil ⟨rfl,?_⟩
         refine walk ?_
         exact ⟨_,_,rfl,rfl,Sub.refl _⟩
      ·rw [int_beq_ne h6,Bool.false_and]
       have rest:st=false∨(st=true∧A.l=B.l):=flag_yes hb
       rcases rest with rfl|⟨rfl,he⟩<;>(refine walk ?_; exact ⟨_,_,rfl,rfl,Sub.refl _⟩)
     ·rw [int_beq_ne h5,Bool.false_and]
      have rest:st=false∨(st=true∧A.l=B.l):=flag_yes hb
      rcases rest with rfl|⟨rfl,he⟩<;>(refine walk ?_; exact ⟨_,_,rfl,rfl,Sub.refl _⟩)
   exact key _ rfl
 termination_by A=>SizeOf.sizeOf A
end
theorem cloneInt_a (es:List (List AV)) (hb:es.length≤100000000000):ACalls Tryz.prog 71 [.sl 1 es] (.sl 1 es):=by
 refine acalls_at code_slices_Clone_int (by simp [fn_slices_Clone_int]) fun im w vs hlt hrd => ?_
 obtain ⟨v,rest,rfl,hv,hrest⟩:=hrd
 have hv':=hv
 obtain ⟨a,cap,vs',rfl,hle,hnil,hmax,hat,h1s,hrd⟩:=hv'
 have hrest':rest=[]:=hrest
 subst hrest'
 cases a with
 | none =>
   have hc:=hnil rfl
   subst hc
   have hes:es=[]:=List.eq_nil_of_length_eq_zero (by omega)
   subst hes
   refine ⟨[.lit (.slice none 0 0)],⟨_,[],rfl,rfl,rfl⟩,fun C hC _ _ => ?_⟩
   refine walk ?_
   refine aw_reg (rrun ?_)
   refine r_eqvS Tryz.underlying23 (rrun ?_)
   refine rg_nil ⟨rfl,?_⟩
   refine walk ?_
   exact ⟨_,_,rfl,rfl,Sub.nil _⟩
 | some x =>
   refine ⟨[.lit (.slice (some x) es.length cap)],⟨_,[],rfl,rfl,rfl⟩,fun C hC hw0 him => ?_⟩
   refine walk ?_
   refine aw_reg (rrun ?_)
   refine r_eqvS Tryz.underlying23 (rrun ?_)
   refine rg_nil ⟨rfl,?_⟩
   refine walk ?_
   refine aw_weak (wk_back (n:=0) (av:=.sl 1 es) hC rfl (by rw [hw0,him]; exact hv) (by rw [hw0,him]; exact hlt)) ?_
   refine walk ?_
   refine aw_reg (rrun ?_)
   refine r_rowlit ?_
   refine rrun ?_
   refine r_append ?_ ?_
   ·simp only [chunk,List.length_nil,Nat.zero_add]; omega
   refine rrun ?_
   refine rg_nil ⟨rfl,?_⟩
   refine walk ?_
   exact ⟨_,_,rfl,rfl,Sub.refl _⟩
theorem cloneU32_a (es:List (List AV)) (hb:es.length≤100000000000):ACalls Tryz.prog 187 [.sl 1 es] (.sl 1 es):=by
 refine acalls_at code_slices_Clone_uint32 (by simp [fn_slices_Clone_uint32]) fun im w vs hlt hrd => ?_
 obtain ⟨v,rest,rfl,hv,hrest⟩:=hrd
 have hv':=hv
 obtain ⟨a,cap,vs',rfl,hle,hnil,hmax,hat,h1s,hrd⟩:=hv'
 have hrest':rest=[]:=hrest
 subst hrest'
 cases a with
 | none =>
   have hc:=hnil rfl
   subst hc
   have hes:es=[]:=List.eq_nil_of_length_eq_zero (by omega)
   subst hes
   refine ⟨[.lit (.slice none 0 0)],⟨_,[],rfl,rfl,rfl⟩,fun C hC _ _ => ?_⟩
   refine walk ?_
   refine aw_reg (rrun ?_)
   refine r_eqvS Tryz.underlying49 (rrun ?_)
   refine rg_nil ⟨rfl,?_⟩
   refine walk ?_
   exact ⟨_,_,rfl,rfl,Sub.nil _⟩
 | some x =>
   refine ⟨[.lit (.slice (some x) es.length cap)],⟨_,[],rfl,rfl,rfl⟩,fun C hC hw0 him => ?_⟩
   refine walk ?_
   refine aw_reg (rrun ?_)
   refine r_eqvS Tryz.underlying49 (rrun ?_)
   refine rg_nil ⟨rfl,?_⟩
   refine walk ?_
   refine aw_weak (wk_back (n:=0) (av:=.sl 1 es) hC rfl (by rw [hw0,him]; exact hv) (by rw [hw0,him]; exact hlt)) ?_
   refine walk ?_
   refine aw_reg (rrun ?_)
   refine r_rowlit ?_
   refine rrun ?_
   refine r_append ?_ ?_
   ·simp only [chunk,List.length_nil,Nat.zero_add]; omega
   refine rrun ?_
   refine rg_nil ⟨rfl,?_⟩
   refine walk ?_
   exact ⟨_,_,rfl,rfl,Sub.refl _⟩
theorem cloneArr_a (es:List (List AV)) (hb:es.length≤100000000000):ACalls Tryz.prog 188 [.sl 3 es] (.sl 3 es):=by
 refine acalls_at code_slices_Clone_api_Array (by simp [fn_slices_Clone_api_Array]) fun im w vs hlt hrd => ?_
 obtain ⟨v,rest,rfl,hv,hrest⟩:=hrd
 have hv':=hv
 obtain ⟨a,cap,vs',rfl,hle,hnil,hmax,hat,h1s,hrd⟩:=hv'
 have hrest':rest=[]:=hrest
 subst hrest'
 cases a with
 | none =>
   have hc:=hnil rfl
   subst hc
   have hes:es=[]:=List.eq_nil_of_length_eq_zero (by omega)
   subst hes
   refine ⟨[.lit (.slice none 0 0)],⟨_,[],rfl,rfl,rfl⟩,fun C hC _ _ => ?_⟩
   refine walk ?_
   refine aw_reg (rrun ?_)
   refine r_eqvS Tryz.underlying52 (rrun ?_)
   refine rg_nil ⟨rfl,?_⟩
   refine walk ?_
   exact ⟨_,_,rfl,rfl,Sub.nil _⟩
 | some x =>
   refine ⟨[.lit (.slice (some x) es.length cap)],⟨_,[],rfl,rfl,rfl⟩,fun C hC hw0 him => ?_⟩
   refine walk ?_
   refine aw_reg (rrun ?_)
   refine r_eqvS Tryz.underlying52 (rrun ?_)
   refine rg_nil ⟨rfl,?_⟩
   refine walk ?_
   refine aw_weak (wk_back (n:=0) (av:=.sl 3 es) hC rfl (by rw [hw0,him]; exact hv) (by rw [hw0,him]; exact hlt)) ?_
   refine walk ?_
   refine aw_reg (rrun ?_)
   refine r_rowlit ?_
   refine rrun ?_
   refine r_append ?_ ?_
   ·simp only [chunk,List.length_nil,Nat.zero_add]; omega
   refine rrun ?_
   refine rg_nil ⟨rfl,?_⟩
   refine walk ?_
   exact ⟨_,_,rfl,rfl,Sub.refl _⟩
def rowK {α:Type} (f:α→List AV) (z:List AV) (xs:List α) (k:Nat):List (List AV):=(xs.take k).map f++List.replicate (xs.length - k) z
theorem rowK_zero {α:Type} (f:α→List AV) (z:List AV) (xs:List α):List.replicate xs.length z=rowK f z xs 0:=by simp [rowK]
theorem rowK_len {α:Type} (f:α→List AV) (z:List AV) (xs:List α) (k:Nat) (h:k≤xs.length):(rowK f z xs k).length=xs.length:=by
 simp [rowK]; omega
theorem rowK_get {α:Type} (f:α→List AV) (z:List AV) (xs:List α) (k:Nat) (h:k<xs.length):(rowK f z xs k)[k]? = some z:=by
 rw [rowK,List.getElem?_append_right (by simp; omega)]
 simp [List.getElem?_replicate]
 omega
theorem rowK_set {α:Type} (f:α→List AV) (z:List AV) (xs:List α) (k:Nat) (x:α) (h:xs[k]? = some x):(rowK f z xs k).set k (f x)=rowK f z xs (k+1):=by
 have hk:=(List.getElem?_eq_some_iff.1 h).1
 rw [rowK,rowK,List.set_append_right _ _ (by simp; omega),List.take_add_one,h]
 have e:xs.length - k=(xs.length - (k+1))+1:=by omega
 rw [e,List.replicate_succ]
 simp
 rw [show k - min k xs.length=0 from by omega]
 rfl
theorem rowK_end {α:Type} (f:α→List AV) (z:List AV) (xs:List α) (k:Nat) (h:¬ k<xs.length):rowK f z xs k=xs.map f:=by
 rw [rowK,List.take_of_length_le (by omega),show xs.length - k=0 from by omega]; simp
def mapK {α:Type} (f:α→List AV) (xs:List α) (k:Nat):List (List AV):=(xs.take k).map f
theorem mapK_step {α:Type} (f:α→List AV) (xs:List α) (k:Nat) (x:α) (h:xs[k]? = some x):mapK f xs k++[f x]=mapK f xs (k+1):=by
 rw [mapK,mapK,List.take_add_one,h]; simp
theorem mapK_end {α:Type} (f:α→List AV) (xs:List α) (k:Nat) (h:¬ k<xs.length):mapK f xs k=xs.map f:=by
 rw [mapK,List.take_of_length_le (by omega)]
theorem mapK_len {α:Type} (f:α→List AV) (xs:List α) (k:Nat):(mapK f xs k).length≤k:=by
 simp [mapK]; omega
def maxB:Nat:=1000000000
mutual
def okA:Arr→Prop
 | .mk s sh cs=>s<18446744073709551616∧sh.length≤maxB∧cs.length≤maxB∧okCs cs
def okC:Cell→Prop
 | .mk l k n c ins=>l<18446744073709551616∧n.top.length≤maxB∧n.bot.length≤maxB∧ins.length≤maxB∧okAs ins
def okCs:List Cell→Prop
 | []=>True
 | c::cs=>okC c∧okCs cs
def okAs:List Arr→Prop
 | []=>True
 | a::l=>okA a∧okAs l
end
theorem okCs_mem:∀ {cs:List Cell},okCs cs↔∀ c ∈ cs,okC c
 | []=>by simp [okCs]
 | c::cs=>by simp only [okCs,List.mem_cons,forall_eq_or_imp,okCs_mem]
theorem okAs_mem:∀ {cs:List Arr},okAs cs↔∀ c ∈ cs,okA c
 | []=>by simp [okAs]
 | c::cs=>by simp only [okAs,List.mem_cons,forall_eq_or_imp,okAs_mem]
theorem okA.parts {A:Arr} (h:okA A):A.s<18446744073709551616∧A.shape.length≤maxB∧A.cells.length≤maxB∧okCs A.cells:=by cases A; exact h
theorem okC.parts {c:Cell} (h:okC c):c.l<18446744073709551616∧c.n.top.length≤maxB∧c.n.bot.length≤maxB∧c.ins.length≤maxB∧okAs c.ins:=by cases c; exact h
mutual
theorem leftA_ok:∀ (A:Arr) (d:Nat) (n:Int),arrOK A→0≤leftA A d n→n≤4000→leftA A d n≤n - 1∧okA A
 | .mk s sh cs,d,n,h,h0,h1=>by
   simp only [arrOK] at h
   simp only [leftA] at h0 ⊢
   split at h0
   ·omega
   ·rename_i hd
    rw [if_neg hd]
    have hb:(maxB:Int)=1000000000:=rfl
    obtain ⟨k1,k2⟩:=leftCs_ok cs d _ h.2.2.2.2 h0 (by omega)
    simp only [okA]
    exact ⟨by omega,h.1,by omega,by omega,k2⟩
theorem leftCs_ok:∀ (cs:List Cell) (d:Nat) (n:Int),cellsOK cs→0≤leftCs cs d n→n≤4000→leftCs cs d n≤n - cs.length∧okCs cs
 | [],d,n,h,h0,h1=>by simp [leftCs,okCs]
 | c::cs,d,n,h,h0,h1=>by
   simp only [cellsOK] at h
   simp only [leftCs] at h0 ⊢
   by_cases hn:0≤n
   ·rw [if_pos hn] at h0 ⊢
    by_cases hm:0≤leftC c d n
    ·obtain ⟨a1,a2⟩:=leftC_ok c d n h.1 hm h1
     obtain ⟨k1,k2⟩:=leftCs_ok cs d _ h.2 h0 (by omega)
     simp only [okCs,List.length_cons]
     exact ⟨by omega,a2,k2⟩
    ·rw [leftCs_neg _ _ _ (by omega)] at h0; omega
   ·rw [if_neg hn] at h0; omega
theorem leftC_ok:∀ (c:Cell) (d:Nat) (n:Int),cellOK c→0≤leftC c d n→n≤4000→leftC c d n≤n - 1∧okC c
 | .mk l k nm ch ins,d,n,h,h0,h1=>by
   simp only [cellOK] at h
   simp only [leftC] at h0 ⊢
   have hb:(maxB:Int)=1000000000:=rfl
   obtain ⟨k1,k2⟩:=leftAs_ok ins _ _ h.2.2.2.2.2 h0 (by omega)
   simp only [okC]
   exact ⟨by omega,h.1,by omega,by omega,by omega,k2⟩
theorem leftAs_ok:∀ (cs:List Arr) (d:Nat) (n:Int),arrsOK cs→0≤leftAs cs d n→n≤4000→leftAs cs d n≤n - cs.length∧okAs cs
 | [],d,n,h,h0,h1=>by simp [leftAs,okAs]
 | c::cs,d,n,h,h0,h1=>by
   simp only [arrsOK] at h
   simp only [leftAs] at h0 ⊢
   by_cases hn:0≤n
   ·rw [if_pos hn] at h0 ⊢
    by_cases hm:0≤leftA c d n
    ·obtain ⟨a1,a2⟩:=leftA_ok c d n h.1 hm h1
     obtain ⟨k1,k2⟩:=leftAs_ok cs d _ h.2 h0 (by omega)
     simp only [okAs,List.length_cons]
     exact ⟨by omega,a2,k2⟩
    ·rw [leftAs_neg _ _ _ (by omega)] at h0; omega
   ·rw [if_neg hn] at h0; omega
end
theorem few_ok {A:Arr} (h:arrOK A) (hf:fewP A=true):okA A:=(leftA_ok A 12 4000 h (of_decide_eq_true hf) (by omega)).2
mutual
theorem okA.wf:∀ {A:Arr},okA A→wfA A
 | .mk s sh cs,h=>by
   simp only [okA] at h
   exact ⟨h.1,okCs.wf h.2.2.2⟩
theorem okCs.wf:∀ {cs:List Cell},okCs cs→wfCs cs
 | [],h=>by simp [wfCs]
 | c::cs,h=>by
   simp only [okCs] at h
   exact ⟨okC.wf h.1,okCs.wf h.2⟩
theorem okC.wf:∀ {c:Cell},okC c→wfC c
 | .mk l k n c ins,h=>by
   simp only [okC] at h
   exact ⟨h.1,okAs.wf h.2.2.2.2⟩
theorem okAs.wf:∀ {xs:List Arr},okAs xs→wfAs xs
 | [],h=>by simp [wfAs]
 | a::xs,h=>by
   simp only [okAs] at h
   exact ⟨okA.wf h.1,okAs.wf h.2⟩
end
abbrev cellZ:List AV:=[.lit (.int .u64 0),.lit (.int .i64 0),.lit (.bool false),.lit (.slice none 0 0),.lit (.slice none 0 0),.lit (.int .i64 0),.lit (.slice none 0 0)]
def trimLen (xs:List Int):Nat→Nat
 | 0=>0
 | k+1=>if xs[k]? = some 0 then trimLen xs k else k+1
def trimI (xs:List Int):List Int:=xs.take (trimLen xs xs.length)
theorem trimI_len (xs:List Int):(trimI xs).length≤xs.length:=by simp [trimI]; omega
theorem trim_a (xs:List Int):ACalls Tryz.prog 241 [.sl 1 (intsA .u32 xs)] (.sl 1 (intsA .u32 (trimI xs))):=by
 have lx:=intsA_len .u32 xs
 refine acalls_of code_nat_trim (by simp [fn_nat_trim]) fun C hC => ?_
 refine aw_know 0 ((intsA .u32 xs).length≤281474976710656) (fun E w v h=>know_sl h) fun hx => ?_
 refine walk ?_
 refine aw_loop (X:=Nat) (fun k=>⟨[(0,.sl 1 (intsA .u32 xs)),(2,.lit (.slice none 0 0)),(3,.lit (.int .i64 k))],[],0⟩) (fun k=>k≤xs.length∧trimLen xs xs.length=trimLen xs k) (fun k=>k) xs.length (wk hC [] [0,2,3] 0) ⟨Nat.le_refl _,rfl⟩ ?_
 rintro k ⟨hk,hE⟩
 have fin:trimLen xs xs.length=k→intsA .u32 (trimI xs)=((intsA .u32 xs).drop 0).take (k - 0):=fun he=>by
  rw [trimI,he,List.drop_zero,Nat.sub_zero,intsA,intsA,List.map_take]
 cases k with
 | zero =>
   refine walk ?_
   refine aw_reg (rrun ?_)
   refine r_slice3 0 0 ?_ ?_ ?_
   ·omega
   ·omega
   refine rrun ?_
   refine rg_nil ⟨rfl,?_⟩
   refine walk ?_
   rw [fin hE]
   exact ⟨_,_,rfl,rfl,Sub.refl _⟩
 | succ k =>
   obtain ⟨x,hx'⟩:∃ x,xs[k]? = some x:=⟨_,List.getElem?_eq_getElem (by omega)⟩
   have hxk:(intsA .u32 xs)[(((k+1:Nat):Int) - 1).toNat]? = some [.lit (.int .u32 x)]:=by
    rw [show (((k+1:Nat):Int) - 1).toNat=k from by omega]; exact int_at hx'
   by_cases h0:x=0
   ·rw [trimLen,if_pos (by rw [hx',h0])] at hE
    refine walk ?_
    exact ⟨k,by omega,⟨by omega,hE⟩,wk hC [] [0,2,3] 0 (by rw [show ((k:Nat):Int)=((k+1:Nat):Int) - 1 from by omega]; rfl)⟩
   ·rw [trimLen,if_neg (by rw [hx']; simpa using h0)] at hE
    refine walk ?_
    refine aw_reg (rrun ?_)
    refine r_slice3 0 (k+1) ?_ ?_ ?_
    ·omega
    ·omega
    refine rrun ?_
    refine rg_nil ⟨rfl,?_⟩
    refine walk ?_
    rw [fin hE]
    exact ⟨_,_,rfl,rfl,Sub.refl _⟩
theorem norm_a (xs:List Int) (hb:xs.length≤maxB):ACalls Tryz.prog 223 [.sl 1 (intsA .u32 xs)] (.sl 1 (intsA .u32 (trimI xs))):=by
 have hB:maxB=1000000000:=rfl
 have hl:=trimI_len xs
 have lx:=intsA_len .u32 (trimI xs)
 refine acalls_of code_nat_Norm (by simp [fn_nat_Norm]) fun C hC => ?_
 refine walk ?_
 refine aw_reg (rrun ?_)
 refine r_call (trim_a xs) (rrun ?_)
 refine rg_nil ⟨rfl,?_⟩
 refine walk ?_
 refine aw_reg (rrun ?_)
 refine r_make ?_ ?_ ?_ ?_
 ·omega
 ·omega
 ·omega
 refine rrun ?_
 refine rg_nil ⟨rfl,?_⟩
 refine walk ?_
 refine aw_reg (rrun ?_)
 refine r_copy ?_ ?_
 ·simp [intsA]
 refine rrun ?_
 refine rg_nil ⟨rfl,?_⟩
 refine walk ?_
 refine ⟨_,_,rfl,rfl,?_⟩
 have e:intsA .u32 (trimI xs)++(List.replicate (((trimI xs).length:Nat):Int).toNat ([.int .u32 0].map AV.lit)).drop (intsA .u32 (trimI xs)).length=intsA .u32 (trimI xs):=by simp [intsA]
 rw [e]
 exact Sub.refl _
end Go.Proofs.YtnnipocjapblkaaGreat
