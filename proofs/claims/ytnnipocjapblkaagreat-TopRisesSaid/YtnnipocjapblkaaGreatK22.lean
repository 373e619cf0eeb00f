/- The scalar functions of two arrays, to any depth. -/
import Derived.Test.YtnnipocjapblkaaGreatK19
import Derived.Test.YtnnipocjapblkaaGreatK20
import Derived.Test.YtnnipocjapblkaaGreatK21
set_option maxRecDepth 10000
namespace Go.Proofs.YtnnipocjapblkaaGreat
set_option linter.unusedVariables false
open Go.RowKit
def NumQ (n:Num):Prop:=∃ (z:Int) (q:Nat),n=qN z q∧q≠0∧szZ z≤32∧(limbs q).length≤32
theorem NumQ.len {n:Num} (h:NumQ n):n.top.length≤32∧n.bot.length≤32:=by
 obtain ⟨z,q,rfl,_,h1,h2⟩:=h; exact ⟨h1,h2⟩
def guessF (m:Num):Num × Int:=if m.top=[1] then (ofZ 4,0) else (ofZ 5,0)
open Classical in
noncomputable def numsF (f:Int) (m n:Num):Num × Int :=
 if NumR (guessF m).1∧ACalls Tryz.prog 183 [nA f,.agg (numV m),.agg (numV n)] (.tup [.agg (numV (guessF m).1),nA (guessF m).2]) then guessF m
 else if h:∃ re:Num × Int,NumR re.1∧ACalls Tryz.prog 183 [nA f,.agg (numV m),.agg (numV n)] (.tup [.agg (numV re.1),nA re.2]) then Classical.choose h else (zN,0)
theorem numsF_guess {f:Int} {m n:Num} (h:NumR (guessF m).1) (g:ACalls Tryz.prog 183 [nA f,.agg (numV m),.agg (numV n)] (.tup [.agg (numV (guessF m).1),nA (guessF m).2])):numsF f m n=guessF m:=by
 unfold numsF
 rw [if_pos ⟨h,g⟩]
theorem numsF_a (f:Int) {m n:Num} (hm:NumQ m) (hn:NumQ n):NumR (numsF f m n).1∧ACalls Tryz.prog 183 [nA f,.agg (numV m),.agg (numV n)] (.tup [.agg (numV (numsF f m n).1),nA (numsF f m n).2]):=by
 obtain ⟨x,a,rfl,ha,lx,la⟩:=hm
 obtain ⟨y,b,rfl,hb,ly,lb⟩:=hn
 obtain ⟨r,e,hR,hc⟩:=snums_a f x a y b ha hb lx la ly lb
 have h:∃ re:Num × Int,NumR re.1∧ACalls Tryz.prog 183 [nA f,.agg (numV (qN x a)),.agg (numV (qN y b))] (.tup [.agg (numV re.1),nA re.2]):=⟨(r,e),hR,hc⟩
 unfold numsF
 by_cases hg:NumR (guessF (qN x a)).1∧ACalls Tryz.prog 183 [nA f,.agg (numV (qN x a)),.agg (numV (qN y b))] (.tup [.agg (numV (guessF (qN x a)).1),nA (guessF (qN x a)).2])
 ·rw [if_pos hg]
  exact hg
 ·rw [if_neg hg,dif_pos h]
  exact Classical.choose_spec h
def okTC (okd:Arr→Prop) (c:Cell):Prop :=
 c.l<18446744073709551616∧((c.kind=0∧c.c=0∧c.ins=[]∧NumQ c.n)∨(c.kind=1∧c.n=zN∧c.ins=[]∧(Lit.int .i64 c.c).wf=true)∨(c.kind=2∧c.n=zN∧c.c=0∧∃ a,c.ins=[a]∧okd a))
def okTB (A:Arr):Prop:=A.s<18446744073709551616∧(cnt A.shape).2=0∧(cnt A.shape).1=A.cells.length
def okT:Nat→Arr→Prop
 | 0,A=>okTB A∧∀ c ∈ A.cells,okTC (fun _=>False) c
 | d+1,A=>okTB A∧∀ c ∈ A.cells,okTC (okT d) c
theorem okTC.mono {p q:Arr→Prop} (h:∀ a,p a→q a) {c:Cell} (hc:okTC p c):okTC q c:=by
 refine ⟨hc.1,?_⟩
 rcases hc.2 with h1|h1|⟨h1,h2,h3,a,h4,h5⟩
 ·exact .inl h1
 ·exact .inr (.inl h1)
 ·exact .inr (.inr ⟨h1,h2,h3,a,h4,h a h5⟩)
theorem okT.base {d:Nat} {A:Arr} (h:okT d A):okTB A:=by cases d<;>exact h.1
theorem okT.succ:∀ {d:Nat} {A:Arr},okT d A→okT (d+1) A
 | 0,A,h=>⟨h.1,fun c hc=>(h.2 c hc).mono (fun _ h=>h.elim)⟩
 | d+1,A,h=>⟨h.1,fun c hc=>(h.2 c hc).mono (fun _ h=>h.succ)⟩
theorem okT.cell {d:Nat} {A:Arr} (h:okT d A) {c:Cell} (hc:c ∈ A.cells):okTC (okT d) c:=by
 cases d with
 | zero=>exact (h.2 c hc).mono (fun _ h=>h.elim)
 | succ d=>exact (h.2 c hc).mono (fun _ h=>h.succ)
theorem okTC.len {p:Arr→Prop} {c:Cell} (h:okTC p c):c.n.top.length≤32∧c.n.bot.length≤32∧c.ins.length≤1:=by
 rcases h.2 with ⟨_,_,h1,h2⟩|⟨_,h1,h2,_⟩|⟨_,h1,_,a,h2,_⟩
 ·rw [h1]; exact ⟨h2.len.1,h2.len.2,by simp⟩
 ·rw [h1,h2]; exact ⟨by simp [zN],by simp [zN],by simp⟩
 ·rw [h1,h2]; exact ⟨by simp [zN],by simp [zN],by simp⟩
theorem okTB.len {A:Arr} (h:okTB A):A.shape.length≤6:=cnt_len h.2.1
theorem okTB.cells {A:Arr} (h:okTB A):A.cells.length≤2048:=by have:=(cnt_le A.shape).2; have:=h.2.2; omega
theorem cnt_nil:cnt []=(1,0):=rfl
theorem okTB.one {A:Arr} (h:okTB A) (hs:A.shape=[]):A.cells.length=1:=by
 have:=h.2.2; rw [hs] at this; exact (Int.ofNat.inj this).symm
def zA:Arr:=.mk 0 [] []
def conf (s t:List Int):List Int × Int :=
 if s.length=0 then (t,0) else if t.length=0 then (s,0) else if s.length≠t.length then ([],5) else if intsP s t=false then ([],4) else (s,0)
theorem conf_a (A B:Arr) (hA:A.shape.length≤1000) (hB:B.shape.length≤1000):ACalls Tryz.prog 151 [.agg (arrV A),.agg (arrV B)] (.tup [.sl 1 (intsA .i64 (conf A.shape B.shape).1),nA (conf A.shape B.shape).2]):=by
 obtain ⟨s,sh,cs⟩:=A
 obtain ⟨s',sh',cs'⟩:=B
 dsimp only [Arr.shape] at hA hB ⊢
 have l1:=intsA_len .i64 sh
 have l2:=intsA_len .i64 sh'
 have c1:=cloneInt_a (intsA .i64 sh) (by omega)
 have c2:=cloneInt_a (intsA .i64 sh') (by omega)
 have c3:=equalInt_a sh sh'
 refine acalls_of code_scalar_Conform (by simp [fn_scalar_Conform]) fun C hC => ?_
 unfold conf
 by_cases h1:sh.length=0
 ·rw [if_pos h1]
  refine wk5 ?_
  exact fin
 rw [if_neg h1]
 by_cases h2:sh'.length=0
 ·rw [if_pos h2]
  refine wk5 ?_
  exact fin
 rw [if_neg h2]
 by_cases h3:sh.length=sh'.length
 ·rw [if_neg (fun h=>h h3)]
  cases h4:intsP sh sh'<;>rw [h4] at c3
  ·rw [if_pos rfl]
   refine wk5 ?_
   exact fin
  ·rw [if_neg (by decide)]
   refine wk5 ?_
   exact fin
 ·rw [if_pos h3]
  refine wk5 ?_
  exact fin
def pickP (A:Arr) (i:Nat):Cell:=A.cells.getD (if A.shape.length=0 then 0 else i) (.mk 0 0 zN 0 [])
theorem pick_a (A:Arr) (i:Nat) (c:Cell) (hi:i≤100000) (hl:A.cells.length≤100000) (h:A.cells[if A.shape.length=0 then 0 else i]? = some c):ACalls Tryz.prog 153 [.agg (arrV A),nA i] (.agg (cellV c)):=by
 have l1:=intsA_len .i64 A.shape
 have l2:=cells_len A
 refine acalls_of code_scalar_pick (by simp [fn_scalar_pick]) fun C hC => ?_
 by_cases h1:A.shape.length=0
 ·rw [if_pos h1] at h
  have hk:=(List.getElem?_eq_some_iff.1 h).1
  have hcv:(A.cells.map cellR)[(0:Int).toNat]? = some (cellV c):=cell_at h
  refine wk5 ?_
  exact fin
 ·rw [if_neg h1] at h
  have hk:=(List.getElem?_eq_some_iff.1 h).1
  have hcv:(A.cells.map cellR)[((i:Nat):Int).toNat]? = some (cellV c):=cell_at h
  refine wk5 ?_
  exact fin
def contP (c:Cell):Arr:=if c.kind=2 then c.ins.headD zA else .mk 0 [] [.mk 0 c.kind c.n c.c c.ins]
theorem inside_a (c:Cell) (a:Arr) (h:c.ins=[a]):ACalls Tryz.prog 166 [.agg (cellV c)] (.agg (arrV a)):=by
 have hv:(c.ins.map arrR)[(0:Int).toNat]? = some (arrV a):=by rw [h]; exact arr_at rfl
 have l1:((c.ins.map arrR).length:Int)=1:=by rw [h]; rfl
 refine acalls_of code_scalar_inside (by simp [fn_scalar_inside]) fun C hC => ?_
 refine wk5 ?_
 exact fin
theorem cont_a {p:Arr→Prop} (c:Cell) (hc:okTC p c):ACalls Tryz.prog 182 [.agg (cellV c)] (.agg (arrV (contP c))):=by
 have hB:maxB=1000000000:=rfl
 obtain ⟨g1,g2,g3⟩:=hc.len
 by_cases hk:c.kind=2
 ·rcases hc.2 with ⟨h1,_⟩|⟨h1,_⟩|⟨_,_,_,a,h4,_⟩
  ·omega
  ·omega
  have c1:=inside_a c a h4
  rw [contP,if_pos hk,h4]
  obtain ⟨l,k,n,ch,ins⟩:=c
  dsimp only [Cell.kind] at hk
  refine acalls_of code_scalar_content (by simp [fn_scalar_content]) fun C hC => ?_
  refine wk5 ?_
  exact fin
 ·rw [contP,if_neg hk]
  obtain ⟨l,k,n,ch,ins⟩:=c
  dsimp only [Cell.kind,Cell.n,Cell.c,Cell.ins] at hk g1 g2 g3 ⊢
  have c1:=scalar_a (.mk 0 k n ch ins) (by dsimp only [Cell.n]; omega) (by dsimp only [Cell.n]; omega) (by dsimp only [Cell.ins]; omega)
  rw [show cellV (.mk 0 k n ch ins)=[.lit (.int .u64 0),.lit (.int .i64 k),.lit (.bool n.neg),.sl 1 (intsA .u32 n.top),.sl 1 (intsA .u32 n.bot),.lit (.int .i64 ch),.sl 3 (ins.map arrR)] from rfl] at c1
  refine acalls_of code_scalar_content (by simp [fn_scalar_content]) fun C hC => ?_
  rw [show cellV (.mk l k n ch ins)=[.lit (.int .u64 l),.lit (.int .i64 k),.lit (.bool n.neg),.sl 1 (intsA .u32 n.top),.sl 1 (intsA .u32 n.bot),.lit (.int .i64 ch),.sl 3 (ins.map arrR)] from rfl]
  refine wk5 ?_
  exact fin
theorem okT_cont {d:Nat} {c:Cell} (hc:okTC (okT d) c):okT d (contP c):=by
 unfold contP
 rcases hc.2 with h|h|⟨h1,h2,h3,a,h4,h5⟩
 ·rw [if_neg (by omega)]
  cases d<;>exact ⟨⟨show (0:Nat)<18446744073709551616 by decide,rfl,rfl⟩,fun x hx=>by obtain rfl:=List.mem_singleton.1 hx; exact ⟨show (0:Nat)<18446744073709551616 by decide,.inl h⟩⟩
 ·rw [if_neg (by omega)]
  cases d<;>exact ⟨⟨show (0:Nat)<18446744073709551616 by decide,rfl,rfl⟩,fun x hx=>by obtain rfl:=List.mem_singleton.1 hx; exact ⟨show (0:Nat)<18446744073709551616 by decide,.inr (.inl h)⟩⟩
 ·rw [if_pos h1,h4]; exact h5
theorem wf_i64 {z:Int} (h0 : -9223372036854775808≤z) (h1:z≤9223372036854775807):(Lit.int .i64 z).wf=true:=by
 have e1:IntKind.i64.min = -9223372036854775808:=by decide
 have e2:IntKind.i64.max=9223372036854775807:=by decide
 have h':IntKind.i64.min≤z∧z≤IntKind.i64.max:=by omega
 simpa [Lit.wf] using h'
theorem NumQ.ok {n:Num} (h:NumQ n):numOK n:=by obtain ⟨z,q,rfl,_,h1,h2⟩:=h; exact qN_ok z q h1 h2
theorem okTB.j {A:Arr} (h:okTB A) (ha:okA A):okJ A:=⟨ha,h.2.1,h.2.2⟩
theorem okTC.okC {p:Arr→Prop} (hp:∀ a,p a→okA a) {c:Cell} (h:okTC p c):okC c:=by
 have hB:maxB=1000000000:=rfl
 obtain ⟨g1,g2,g3⟩:=h.len
 obtain ⟨l,k,n,ch,ins⟩:=c
 refine ⟨h.1,by dsimp only [Cell.n] at g1; omega,by dsimp only [Cell.n] at g2; omega,by dsimp only [Cell.ins] at g3; omega,?_⟩
 rcases h.2 with ⟨_,_,h1,_⟩|⟨_,_,h1,_⟩|⟨_,_,_,a,h1,h2⟩<;>dsimp only [Cell.ins] at h1<;>subst h1
 ·trivial
 ·trivial
 ·exact ⟨hp a h2,trivial⟩
theorem okTC.cellOK {p:Arr→Prop} (hp:∀ a,p a→arrOK a) {c:Cell} (h:okTC p c):cellOK c:=by
 have hz:numOK zN:=⟨by simp [zN],by simp [zN],by simp [zN],by simp [zN]⟩
 obtain ⟨l,k,n,ch,ins⟩:=c
 rcases h.2 with ⟨h0,h1,h2,h3⟩|⟨h0,h1,h2,h3⟩|⟨h0,h1,h3,a,h2,h4⟩<;>dsimp only [Cell.kind,Cell.c,Cell.ins,Cell.n] at h0 h1 h2 h3<;>subst h0<;>subst h1<;>subst h2
 ·exact ⟨h.1,by decide,h3.ok,by decide,Nat.zero_le _,trivial⟩
 ·exact ⟨h.1,by decide,hz,h3,Nat.zero_le _,trivial⟩
 ·subst h3; exact ⟨h.1,by decide,hz,by decide,by simp [reachBytes],hp a h4,trivial⟩
theorem okTB.okA {A:Arr} (h:okTB A) (hc:∀ c ∈ A.cells,okC c):okA A:=by
 have hB:maxB=1000000000:=rfl
 have h1:=h.len
 have h2:=h.cells
 obtain ⟨s,sh,cs⟩:=A
 exact ⟨h.1,by dsimp only [Arr.shape] at h1; omega,by dsimp only [Arr.cells] at h2; omega,okCs_mem.2 hc⟩
theorem okTB.arrOK {A:Arr} (h:okTB A) (hc:∀ c ∈ A.cells,cellOK c):arrOK A:=by
 have h1:=h.len
 have h2:=h.cells
 have h3:=cnt_small h.2.1
 obtain ⟨s,sh,cs⟩:=A
 refine ⟨h.1,fun z hz => ?_,Nat.le_trans h1 (by decide),Nat.le_trans h2 (by decide),cellsOK_mem.2 hc⟩
 have:=h3 z hz
 exact wf_i64 (by omega) (by omega)
theorem okT.okA:∀ {d:Nat} {A:Arr},okT d A→okA A
 | 0,A,h=>h.1.okA fun c hc=>(h.2 c hc).okC (fun _ h=>h.elim)
 | d+1,A,h=>h.1.okA fun c hc=>(h.2 c hc).okC (fun _ h=>h.okA)
theorem okT.arrOK:∀ {d:Nat} {A:Arr},okT d A→arrOK A
 | 0,A,h=>h.1.arrOK fun c hc=>(h.2 c hc).cellOK (fun _ h=>h.elim)
 | d+1,A,h=>h.1.arrOK fun c hc=>(h.2 c hc).cellOK (fun _ h=>h.arrOK)
theorem okT.j {d:Nat} {A:Arr} (h:okT d A):okJ A:=h.base.j h.okA
end Go.Proofs.YtnnipocjapblkaaGreat
