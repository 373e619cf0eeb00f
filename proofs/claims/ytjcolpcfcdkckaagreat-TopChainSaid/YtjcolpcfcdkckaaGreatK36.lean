/- Where the first cell stands that is the same: the closure of find.finder, by the abstract layer. -/
import Derived.Test.YtjcolpcfcdkckaaGreatK34
set_option maxRecDepth 100000
set_option maxHeartbeats 4000000
namespace Go.Proofs.YtjcolpcfcdkckaaGreat
set_option linter.unusedVariables false
open Go.RowKit
def Ab3 (F:Int→List Int):Rdg where
 p im w v:=∃ b o,v=.map (some b)∧im b∧w.heap[b]? = some o∧∀ k:Int,0≤k→k<18446744073709551616 →
   ∀ w',w'.heap[b]? = some o→∃ u,(Instr.lookup 139 (.map (some b)) (.int .u64 k) false).run Tryz.prog w'=.ok u w'∧Dm im w (.sl 1 (Ab .i64 (F k))) u
 mono im im' w w' v hi hw h:=by
  obtain ⟨b,o,h1,h2,h3,h4⟩:=h;refine ⟨b,o,h1,hi b h2,(hw b h2).trans h3,fun k k0 k1 w2 hb => ?_⟩;obtain ⟨u,hu,hr⟩:=h4 k k0 k1 w2 hb;exact ⟨u,hu,Dm.mono hi hw _ _ hr⟩
 one im w v h:=by
  obtain ⟨b,o,h1,_⟩:=h;subst h1; rfl
theorem Agp {F:Int→List Int} {k:Int} (k0:0≤k) (k1:k<18446744073709551616):∀ im w v,(Ab3 F).p im w v →
 ∃ u,(Instr.lookup 139 v (.int .u64 k) false).run Tryz.prog w=.ok u w∧Dm im w (.sl 1 (Ab .i64 (F k))) u:=by
 rintro im w v ⟨b,o,h1,h2,h3,h4⟩;subst h1;exact h4 k k0 k1 w h3
def MZ (l:List Ah) (k:Int):List Int:=((List.range l.length).filter fun i=>decide (Ew 0 (l.getD i AS)=k)).map fun (i:Nat)=>(i:Int)
def Gv (l:List Ah) (c:Ah):List Int→Int
 | [] => -1
 | i::is=>if SM false c (l.getD i.toNat AS) then i else Gv l c is
theorem Agq (l:List Ah) (c:Ah) {is:List Int} {j:Nat} {i:Int} (h:is[j]? = some i):Gv l c (is.drop j)=if SM false c (l.getD i.toNat AS) then i else Gv l c (is.drop (j+1)):=by
 rw [AU h,Gv]
def C1 (l:List Ah) (c:Ah):Int:=Gv l c (MZ l (Ew 0 c))
theorem Ab4 {l:List Ah} {k i:Int} (h:i ∈ MZ l k):0≤i∧i<l.length:=by
 unfold MZ at h;obtain ⟨j,hj,rfl⟩:=List.mem_map.1 h
 have:=(List.mem_filter.1 hj).1
 rw [List.mem_range] at this;omega
theorem Ai1 (l:List Ah) (k:Int):(MZ l k).length≤l.length:=by
 unfold MZ;rw [List.length_map]
 have:=List.length_filter_le (fun i=>decide (Ew 0 (l.getD i AS)=k)) (List.range l.length)
 rw [List.length_range] at this;exact this
theorem Adz (c d:Ah):Rh false (.mk 0 [] [c]) (.mk 0 [] [d])=SM false c d:=by
 simp [Rh,R0,B5]
theorem L9 (l:List Ah) (c:Ah) (hl:l.length≤100000) (hc:okC c) (hs:∀ d ∈ l,okC d) :
 Ae Tryz.prog 146 [.agg (Au c),.ep 1 [[.sem (Ab3 (MZ l))]] 0 0,.ep 1 [[.sl 7 (l.map Av)]] 0 0] (nA (C1 l c)):=by
 have hB:A2=1000000000:=rfl;obtain ⟨b1,b2,b3,b4,b5⟩:=hc.parts;have c1:=Li c b2 b3 b4;have c2:=Adf c 0 hc ⟨by omega,by omega⟩;have hmr:=LY c 0 ⟨by omega,by omega⟩;have hE0:C1 l c=Gv l c (MZ l (Ew 0 c)):=rfl;have hmem:∀ i ∈ MZ l (Ew 0 c),0≤i∧i<l.length:=fun i hi=>Ab4 hi;have hlen:=Ai1 l (Ew 0 c);have hlk:=Agp (F:=MZ l) hmr.1 hmr.2;have lI:=Ac .i64 (MZ l (Ew 0 c));have lL:((l.map Av).length:Int)=l.length:=by simp
 generalize C1 l c=R at hE0 ⊢;generalize MZ l=G at *;generalize Ew 0 c=m at *;generalize G m=is at *;refine Aa NX fun C hC => ?_;refine Aj ?_;refine Aj1 hlk ?_;refine A5 ?_;refine Ak ⟨rfl,?_⟩;refine Aj ?_;refine Ai [2,5,13,14] [1] (fun j:Nat=>[(15,nA j)]) (fun _=>[]) 2 (fun j=>j≤is.length∧R=Gv l c (is.drop j)) (fun j=>is.length - j) 0 ⟨Nat.zero_le _,hE0⟩ ?_;rintro j ⟨hj,hE⟩;dsimp only [List.cons_append,List.nil_append] at hj hE ⊢;clear hlk c2;by_cases hlt:j<is.length
 ·obtain ⟨i,hi⟩:∃ i,is[j]? = some i:=⟨_,List.getElem?_eq_getElem hlt⟩
  have hik:=Az (k:=.i64) hi;obtain ⟨i0,i1⟩:=hmem i (List.mem_of_getElem? hi);rw [Agq l c hi] at hE;have hil:i.toNat<l.length:=by omega
  have hdl:l[i.toNat]? = some (l.getD i.toNat AS):=by rw [List.getD_eq_getElem?_getD,List.getElem?_eq_getElem hil]; rfl
  have hdk:=A9 hdl;have hdo:=hs _ (List.mem_of_getElem? hdl);generalize l.getD i.toNat AS=d at *;obtain ⟨d1,d2,d3,d4,d5⟩:=hdo.parts;have c3:=Li d d2 d3 d4;have c4:=AeT (.mk 0 [] [c]) (.mk 0 [] [d]);rw [Adz] at c4;clear c1;cases hb:SM false c d
  ·rw [hb] at c4 hE
   simp only [Bool.false_eq_true,if_false] at hE;refine Aj ?_;exact ⟨j+1,by omega,⟨by omega,hE⟩,BI hC.m []⟩
  ·rw [hb] at c4 hE
   simp only [if_true] at hE;subst hE;refine Aj ?_;exact Am
 ·rw [List.drop_eq_nil_of_le (by omega),Gv] at hE
  subst hE;refine Aj ?_;exact Am
open Go.RowKit Go.Maps
open Go.ChangeShapes (lits)
def Ab5 (mk:Nat→Int) (n:Nat) (q:Int):List Int:=((List.range n).filter fun i=>decide (mk i=q)).map fun (i:Nat)=>(i:Int)
theorem Agr (mk:Nat→Int) (n:Nat) (q:Int):Ab5 mk (n+1) q=if mk n=q then Ab5 mk n q++[(n:Int)] else Ab5 mk n q:=by
 unfold Ab5;rw [List.range_succ,List.filter_append,List.map_append];by_cases h:mk n=q
 ·rw [if_pos h]; simp [h]
 ·rw [if_neg h]; simp [h]
theorem VL {H:Type} (mk:Nat→Int):∀ n,IsMap (PU (H:=H) mk n)
 | 0=>isMap_empty
 | n+1=>(VL mk n).put _ _
theorem Ov {H:Type} (mk:Nat→Int) (q:Int):∀ n,Rt ((PU (H:=H) mk n).atKey (.int .u64 q) .nil)=lits .i64 (Ab5 mk n q)
 | 0=>by simp [PU,DataW.atKey,Rt,Ab5,lits]
 | n+1=>by
   rw [PU,Agr];by_cases h:mk n=q
   ·subst h
    rw [atKey_put_same (VL mk n) (by trivial),if_pos rfl,Rt,Ov mk _ n];simp [lits]
   ·rw [atKey_put_other (by intro e; exact h (by cases e; rfl)),if_neg h,Ov mk q n]
theorem Ai2 {H:Type} {a b:List Int} (h:lits (H:=H) .i64 a=lits .i64 b):a=b :=
 (List.map_inj_right (fun x y e=>by cases e; rfl)).1 h
theorem Rz {im:Nat→Prop} {w:World}:∀ zs:List Int,AZ im w 1 (Ab .i64 zs) (zs.map (Value.int .i64))
 | []=>by simp [Ab,AZ]
 | z::zs=>by
   show AZ im w 1 ([.lit (.int .i64 z)]::Ab .i64 zs) (Value.int .i64 z::zs.map (Value.int .i64));simp only [AZ];exact ⟨[.int .i64 z],zs.map (Value.int .i64),rfl,rfl,⟨_,[],rfl,rfl,rfl⟩,Rz zs⟩
theorem AkT {w:World} {base:Nat} {e:TypeId} {v:Value} {zs:List Int} {im:Nat→Prop} (h:w.ownsInts base e .i64 v zs) (hz:zs.length≤100000) (hi:∀ b,base≤b→b<w.heap.size→im b):Dm im w (.sl 1 (Ab .i64 zs)) v:=by
 have hrow:=h.1;rcases h.1.2 with ⟨rfl,h0⟩|⟨g,cap,cur,rfl,hg,hh,hn,hcap,_,_⟩
 ·have:zs=[]:=List.length_eq_zero_iff.1 h0
  subst this;simp only [Dm];exact ⟨none,0,[],rfl,Nat.le_refl _,fun _=>rfl,Nat.zero_le _,fun i v hv=>by simp at hv,fun u hu=>by simp at hu,Rz []⟩
 ·have hl:(Ab .i64 zs).length=zs.length:=by simp [Ab]
  simp only [Dm];refine ⟨some ⟨g,0,none⟩,cap,zs.map (Value.int .i64),by rw [hl],by rw [hl]; exact hn,(fun h=>by cases h),by rw [hl]; unfold Tx; omega,?_,?_,Rz zs⟩
  ·intro i v hv
   refine ⟨g,0,rfl,hi g hg ?_,?_⟩
   ·exact (Array.getElem?_eq_some_iff.1 hh).1
   ·have hlt:=(List.getElem?_eq_some_iff.1 hv).1
    rw [Nat.zero_add,hrow.cellAt i (by simpa using hlt)];exact hv
  ·intro u hu
   obtain ⟨z,_,rfl⟩:=List.mem_map.1 hu;rfl
theorem AdA {w:World} {base b n:Nat} {mk:Nat→Int} (h:w.ownsGroups (H:=Unit) Tryz.prog 22 base 3 .i64 b n (PU mk n)) (hn:n≤100000) {im:Nat→Prop} (hi:∀ c,b≤c→c<w.heap.size→im c) :
 (Ab3 (Ab5 mk n)).p im w (.map (some b)):=by
 have h':=h;obtain ⟨es,clock,hb,F,hs,hD,hbb,hlen,hap⟩:=h';have hbl:=(Array.getElem?_eq_some_iff.1 hb).1;refine ⟨b,_,rfl,hi b (Nat.le_refl _) hbl,hb,fun k k0 k1 w' hw' => ?_⟩;have hkey:keyOf Tryz.prog 22 (.int .u64 k)=some (.int .u64 k):=keyOf_int_mk Tryz.underlying22 (WalkArith.wf_u64 (by omega));obtain ⟨v,zs,hrun,hat,hoi,hzl,_⟩:=h.at Tg Tryz.underlying139 (PT _) (by unfold maxLen; omega) hkey;refine ⟨v,Vq h Tg Tryz.underlying139 PT hkey (w1:=w) (w2:=w') rfl (hw'.trans hb.symm) hrun,?_⟩
 have hzs:zs=Ab5 mk n k:=by
  have h1:=Ov (H:=Unit) mk k n;rw [hat] at h1;refine Ai2 (H:=Unit) ?_;rw [← h1];rcases hoi.datum (H:=Unit) with ⟨h2,rfl⟩|h2<;>rw [h2]<;>simp [Rt,lits]
 rw [← hzs];exact AkT hoi (by omega) (fun c hc hl=>hi c (by omega) hl)
theorem Ab6:OI Tryz.prog 95 := ⟨_,Tryz.func95,by kernel_rfl,by kernel_rfl⟩
def XQ (l:List Ah):AV:=.fn 146 [] [.ep 1 [[.sem (Ab3 (MZ l))]] 0 0,.ep 1 [[.sl 7 (l.map Av)]] 0 0]
theorem Qf (l:List Ah) (hl:l.length≤100000) (hs:∀ d ∈ l,okC d):Ae Tryz.prog 95 [.sl 7 (l.map Av)] (XQ l):=by
 refine ⟨Ab6,fun im w vs hin hrd => ?_⟩;simp only [Be] at hrd;obtain ⟨v,rest,rfl,hv,rfl⟩:=hrd;have hv0:=hv;simp only [Dm] at hv;obtain ⟨a,cap,us,rfl,hcap,hcn,hmx,hat,hone,hE⟩:=hv;have hn:(l.map Av).length=l.length:=by simp
 rw [hn] at hcap
 have part:∀ k,k<l.length→Be im w (Au (l.getD k AS)) ((us.drop (k * 7)).take 7)∧((us.drop (k * 7)).take 7).length=7:=fun k hk=>by
  refine AZ.get hE (i:=k) ?_;rw [List.getElem?_map,List.getD_eq_getElem?_getD,List.getElem?_eq_getElem hk,← Bv]; rfl
 have sub:∀ k j u,((us.drop (k * 7)).take 7)[j]? = some u→us[k * 7+j]? = some u:=fun k j u h=>by
  have hj:j<7:=by have:=(List.getElem?_eq_some_iff.1 h).1; rw [List.length_take] at this; omega
  rw [List.getElem?_take_of_lt hj,List.getElem?_drop] at h;exact h
 have hmk:∀ k,0≤Ew 0 (l.getD k AS)∧Ew 0 (l.getD k AS)<18446744073709551616:=fun k=>LY _ 0 ⟨by omega,by omega⟩;rw [hn];refine (Aim (H:=Unit) a l.length cap (fun k=>(us.drop (k * 7)).take 7) (fun k=>Ew 0 (l.getD k AS)) w hl ?_ ?_ hmk).mono ?_
 ·intro k hk
  obtain ⟨p1,p2⟩:=part k hk
  have h0:∃ u,us[k * 7+0]? = some u:=by
   obtain ⟨u,hu⟩:∃ u,((us.drop (k * 7)).take 7)[0]? = some u:=⟨_,List.getElem?_eq_getElem (by rw [p2]; omega)⟩;exact ⟨u,sub k 0 u hu⟩
  obtain ⟨u,hu⟩:=h0;obtain ⟨b,off,e,hb,_⟩:=hat _ u hu;refine ⟨b,off,e,hin b hb,p2,fun x hx=>hone x (List.mem_of_mem_drop (List.mem_of_mem_take hx)),fun j x hx => ?_⟩;obtain ⟨b',off',e',_,hc⟩:=hat _ x (sub k j x hx);rw [e] at e';cases e';exact hc
 ·intro k hk wr hbl
  obtain ⟨p1,p2⟩:=part k hk;have hd:l.getD k AS ∈ l:=by rw [List.getD_eq_getElem?_getD,List.getElem?_eq_getElem hk]; exact List.getElem_mem _
  have hm:=(Adf (l.getD k AS) 0 (hs _ hd) ⟨by omega,by omega⟩).calls im wr [.int .u64 0,.agg ((us.drop (k * 7)).take 7).toArray] (fun b hb=>Nat.lt_of_lt_of_le (hin b hb) hbl.size) (by
   simp only [Be,Dm];exact ⟨_,_,rfl,rfl,_,_,rfl,⟨_,rfl,fun x hx=>hone x (List.mem_of_mem_drop (List.mem_of_mem_take hx)),Be.mono (fun _ h=>h) (fun b hb=>hbl.block b (hin b hb)) _ _ p1⟩,rfl⟩)
  refine hm.mono ?_;rintro e w' ⟨v,im',rfl,hr,_,_,_,hbb⟩;simp only [Dm] at hr;subst hr;exact ⟨rfl,hbb⟩
 ·rintro e w' ⟨rfl,hc1,hc2,hg,hb⟩
  refine ⟨_,fun b=>im b∨(w.heap.size≤b∧b<w'.heap.size),rfl,?_,fun b h=>.inl h,fun b h=>h.imp id (fun h=>h.1),fun b h=>h.elim (fun h=>Nat.lt_of_lt_of_le (hin b h) hb.size) (fun h=>h.2),hb⟩;have hs3:w.heap.size+1+1<w'.heap.size:=World.block_lt_of_cell? w' _ hc2;have hs1:w.heap.size<w'.heap.size:=by omega
  simp only [XQ,Dm,Be];refine ⟨[],_,rfl,rfl,_,_,rfl,?_,_,_,rfl,?_,rfl⟩
  ·refine ⟨w.heap.size+1+1,0,[.map (some (w.heap.size+1))],rfl,?_,fun u hu=>by simp at hu; subst hu; rfl,?_⟩
   ·intro i u hu
    match i,hu with
    | 0,hu =>
      simp only [List.getElem?_cons_zero,Option.some.injEq] at hu;subst hu;exact ⟨_,_,rfl,.inr ⟨by omega,hs3⟩,hc2⟩
   ·simp only [AZ,Be,Dm]
    exact ⟨[_],[],rfl,rfl,⟨_,[],rfl,AdA hg hl (fun c h1 h2=>.inr ⟨by omega,h2⟩),rfl⟩,rfl⟩
  ·refine ⟨w.heap.size,0,[.slice a l.length cap],rfl,?_,fun u hu=>by simp at hu; subst hu; rfl,?_⟩
   ·intro i u hu
    match i,hu with
    | 0,hu =>
      simp only [List.getElem?_cons_zero,Option.some.injEq] at hu;subst hu;exact ⟨_,_,rfl,.inr ⟨Nat.le_refl _,hs1⟩,hc1⟩
   ·simp only [AZ,Be]
    refine ⟨[_],[],rfl,rfl,⟨_,[],rfl,?_,rfl⟩,rfl⟩;rw [hn] at hv0;exact Dm.mono (fun b h=>.inl h) (fun b h=>hb.block b (hin b h)) _ _ hv0
theorem ZT (A B:Al) (hA:okA A) (hB:okA B):Ae Tryz.prog 128 [.agg (Ao A),.agg (Ao B)] (CG (A8 A ||| A8 B)):=by
 have c1:=C9 A hA;have c2:=C9 B hB;have c3:=FF (A8 A) (A8 B) (Bg A hA) (Bg B hB);refine Aa UF fun C hC => ?_;refine Aj ?_;exact Am
theorem Ab7 (s:Nat) (sh:List Int) (cs:List Ah) (hl:sh.length≤100000):Ae Tryz.prog 127 [CG s,.sl 1 (Ab .i64 sh),.sl 7 (cs.map Av)] (.agg (Ao (.mk s sh cs))):=by
 have ls:=Ac .i64 sh;have hb:(0+(Ab .i64 sh).length) * 8≤140737488355328:=by omega
 refine Aa Q8 fun C hC => ?_;refine Aj ?_;exact Am
theorem VM (l:List Ah) (c:Ah) {n:Nat}:∀ is:List Int,(∀ i ∈ is,0≤i∧i<n) → -1≤Gv l c is∧Gv l c is<n
 | [],_=>by rw [Gv]; omega
 | i::is,h=>by
   rw [Gv];split
   ·have:=h i (List.mem_cons_self ..); omega
   ·exact VM l c is fun j hj=>h j (List.mem_cons_of_mem _ hj)
theorem VN (l:List Ah) (c:Ah) : -1≤C1 l c∧C1 l c<l.length:=VM l c _ fun i hi=>Ab4 hi
def CB (L M:List Ah) (inn:Bool):List Ah:=L.filter fun c=>decide (C1 M c ≥ 0) == inn
theorem J0 (L M:List Ah) (inn:Bool):(CB L M inn).length≤L.length:=List.length_filter_le _ _
theorem Ab8 {L:List Ah} {j:Nat} {c:Ah} (h:L[j]? = some c) (M:List Ah) (inn:Bool):CB (L.take (j+1)) M inn=if (decide (C1 M c ≥ 0) == inn)=true then CB (L.take j) M inn++[c] else CB (L.take j) M inn:=by
 unfold CB;rw [BO h,List.filter_append,List.filter_cons];split
 ·rfl
 ·simp
theorem AeU (L M:List Ah) (inn:Bool) (hL:L.length≤100000) (hM:M.length≤100000) (kL:∀ c ∈ L,okC c) (kM:∀ c ∈ M,okC c):Ae Tryz.prog 131 [.sl 7 (L.map Av),.sl 7 (M.map Av),.lit (.bool inn)] (.sl 7 ((CB L M inn).map Av)):=by
 have c1:=Qf M hM kM;have cl:=fun c hc=>L9 M c hM hc kM;have lL:((L.map Av).length:Int)=L.length:=by simp
 unfold XQ at c1;generalize Ab3 (MZ M)=R at c1 cl;refine Aa SE fun C hC => ?_;refine Aj ?_
 refine Ai [2,7,14,15] [] (fun j:Nat=>[(8,.own 0),(16,nA j)]) (fun j=>[(0,some ⟨true,false,43,7,(CB (L.take j) M inn).map Av⟩)]) 1
  (fun j=>j≤L.length) (fun j=>L.length - j) 0 (Nat.zero_le _) ?_
 intro j hj;dsimp only [List.cons_append,List.nil_append] at hj ⊢;clear c1;by_cases hlt:j<L.length
 ·obtain ⟨c,hc⟩:∃ c,L[j]? = some c:=⟨_,List.getElem?_eq_getElem hlt⟩
  have hck:=A9 hc;have c2:=cl c (kL c (List.mem_of_getElem? hc));have hst:=Ab8 hc M inn;have hlen:=J0 (L.take j) M inn;rw [List.length_take] at hlen;have hS:((CB (L.take j) M inn).map Av).length≤100000:=by rw [List.length_map]; omega
  generalize C1 M c=q at c2 hst;by_cases hq:(decide (q ≥ 0) == inn)=true
  ·rw [if_pos hq] at hst
   have hm:(CB (L.take j) M inn).map Av++[Au c]=(CB (L.take (j+1)) M inn).map Av:=by rw [hst]; simp [Bv]
   generalize (CB (L.take j) M inn).map Av=S at hS hm ⊢;have hb:(S.length+1) * 104≤140737488355328:=by omega
   by_cases hq0:q ≥ 0
   ·rw [decide_eq_true hq0] at hq
    obtain rfl:true=inn:=eq_of_beq hq;refine Aj ?_;exact ⟨j+1,by omega,by omega,BI hC.m [(0,3)] (by rw [← hm]; rfl)⟩
   ·rw [decide_eq_false hq0] at hq
    obtain rfl:false=inn:=eq_of_beq hq;refine Aj ?_;exact ⟨j+1,by omega,by omega,BI hC.m [(0,3)] (by rw [← hm]; rfl)⟩
  ·rw [if_neg hq] at hst
   rw [← hst];by_cases hq0:q ≥ 0
   ·rw [decide_eq_true hq0] at hq
    obtain rfl:inn=false:=by cases inn<;>simp_all
    refine Aj ?_;exact ⟨j+1,by omega,by omega,BI hC.m []⟩
   ·rw [decide_eq_false hq0] at hq
    obtain rfl:inn=true:=by cases inn<;>simp_all
    refine Aj ?_;exact ⟨j+1,by omega,by omega,BI hC.m []⟩
 ·rw [List.take_of_length_le (by omega)]
  refine Aj ?_;exact Am
def FR (A B:Al) (inn:Bool):Al × Int:=if A.shape.length > 1 then (zA,5) else (FQ (.mk 0 [((CB A.cells B.cells inn).length:Int)] (CB A.cells B.cells inn)) (A8 A ||| A8 B),0)
def IH (A B:Al):Al × Int :=
 if A.shape.length > 1∨B.shape.length > 1 then (zA,5) else
 if A.cells.length+(CB B.cells A.cells false).length > 2048 then (zA,7) else
 (FQ (.mk 0 [((A.cells++CB B.cells A.cells false).length:Int)] (A.cells++CB B.cells A.cells false)) (A8 A ||| A8 B),0)
def XR (M:List Ah) (c:Ah):Ah:=BV ((if C1 M c<0 then (M.length:Int) else C1 M c)+1)
def II (A B:Al):Al × Int:=if A.shape.length≠1 then (zA,5) else (.mk (A8 A ||| A8 B) B.shape (B.cells.map (XR A.cells)),0)
def Ags (M:List Ah) (c:Ah):Ah:=BV (if C1 M c ≥ 0 then 1 else 0)
def GU (A B:Al):Al:=.mk (A8 A ||| A8 B) A.shape (A.cells.map (Ags B.cells))
theorem GV {cs:List Ah} (h:Lg cs):∀ c ∈ cs,okC c:=Es.1 h
theorem okC.lens {c:Ah} (h:okC c):c.n.top.length≤A2∧c.n.bot.length≤A2∧c.ins.length≤A2:=⟨h.parts.2.1,h.parts.2.2.1,h.parts.2.2.2.1⟩
theorem AeV (A B:Al) (inn:Bool) (kA:CI A) (kB:CI B):Ae Tryz.prog 77 [.agg (Ao A),.agg (Ao B),.lit (.bool inn)] (.tup [.agg (Ao (FR A B inn).1),nA (FR A B inn).2]):=by
 have hB:A2=1000000000:=rfl;have hAl:=kA.cells;have hBl:=kB.cells;have sA:=GV kA.ok.parts.2.2.2;have sB:=GV kB.ok.parts.2.2.2;have c1:=AeU A.cells B.cells inn (by omega) (by omega) sA sB;have hlen:=J0 A.cells B.cells inn;have c2:=Jb (CB A.cells B.cells inn) (by omega) (fun c hc=>(sA c (List.mem_filter.1 hc).1).lens);have c3:=ZT A B kA.ok kB.ok;have c4:=Gu (.mk 0 [((CB A.cells B.cells inn).length:Int)] (CB A.cells B.cells inn)) (A8 A ||| A8 B) (by show 0<_; omega) (Nat.or_lt_two_pow (n:=64) (Bg A kA.ok) (Bg B kB.ok));have ls:=Ac .i64 A.shape;unfold FR;generalize CB A.cells B.cells inn=T at *;generalize FQ (.mk 0 [(T.length:Int)] T) (A8 A ||| A8 B)=Z at *;refine AE SC Sq fun C hC => ?_;by_cases h:A.shape.length > 1
 ·rw [if_pos h]
  refine Aj ?_;intro ds;refine Aj ?_;exact Am
 ·rw [if_neg h]
  refine Aj ?_;intro ds;refine Aj ?_;exact Am
theorem AkU (A B:Al) (kA:CI A) (kB:CI B):Ae Tryz.prog 74 [.agg (Ao A),.agg (Ao B)] (.tup [.agg (Ao (II A B).1),nA (II A B).2]):=by
 have hB:A2=1000000000:=rfl;have hAl:=kA.cells;have hBl:=kB.cells;have sA:=GV kA.ok.parts.2.2.2;have sB:=GV kB.ok.parts.2.2.2;have c1:=Qf A.cells (by omega) sA;have cl:=fun c hc=>L9 A.cells c (by omega) hc sA;have hrg:=VN A.cells;have c3:=ZT A B kA.ok kB.ok;have hB6:=kB.len;have c4:=Ab7 (A8 A ||| A8 B) B.shape (B.cells.map (XR A.cells)) (by omega);have ls:=Ac .i64 A.shape;have lA:=AK A;have lB:=AK B;unfold XQ at c1;unfold II;generalize Ab3 (MZ A.cells)=R at c1 cl;have hCS:∀ j c,B.cells[j]? = some c→(B.cells.map (XR A.cells))[j]? = some (BV ((if C1 A.cells c<0 then (A.cells.length:Int) else C1 A.cells c)+1)):=fun j c h=>by rw [List.getElem?_map,h]; rfl
 have hCl:(B.cells.map (XR A.cells)).length=B.cells.length:=List.length_map ..;generalize B.cells.map (XR A.cells)=CS at *;have e0:=DI Au Bd CS;rw [hCl] at e0;refine AE SA Sn fun C hC => ?_;by_cases h:A.shape.length=1
 ·rw [if_neg (fun g=>g h)]
  refine Aj ?_;intro ds;refine Aj ?_
  refine Ai [2,3,4,5,6,7,25,26] [0,1,2,3] (fun k:Nat=>[(27,nA k)]) (fun k=>[(4,some ⟨true,false,43,7,Gk Au Bd CS k⟩)]) 5
   (fun k=>k≤B.cells.length) (fun k=>B.cells.length - k) 0 (Nat.zero_le _) ?_ (hh:=by rw [← e0]; simp only [Int.toNat_natCast]; rfl)
  intro k hk;dsimp only [List.cons_append,List.nil_append] at hk ⊢;clear c1;by_cases hlt:k<B.cells.length
  ·obtain ⟨c,hc⟩:∃ c,B.cells[k]? = some c:=⟨_,List.getElem?_eq_getElem hlt⟩
   have hck:=A9 hc;have c2:=cl c (sB c (List.mem_of_getElem? hc));have hr:=hrg c;have hset:=DY Au Bd CS k _ (hCS k c hc);have hget:=DX Au Bd CS k (by omega);have hll:=DW Au Bd CS k (by omega);clear c3 c4 hCS hrg;by_cases hq:C1 A.cells c<0
   ·rw [if_pos hq] at hset
    have c5:=DJ ((A.cells.length:Int)+1) (by omega) (by omega);refine Aj ?_;exact ⟨k+1,by omega,by omega,BI hC.m [] (by rw [← hset]; rfl)⟩
   ·rw [if_neg hq] at hset
    have c5:=DJ (C1 A.cells c+1) (by omega) (by omega);refine Aj ?_;exact ⟨k+1,by omega,by omega,BI hC.m [] (by rw [← hset]; rfl)⟩
  ·rw [DZ Au Bd CS k (by omega),show CS.map Au=CS.map Av from by simp [Bv]]
   refine A4 4 rfl ?_;refine Aj ?_;exact Am
 ·rw [if_pos h]
  refine Aj ?_;intro ds;refine Aj ?_;exact Am
theorem Ai3 (A B:Al) (kA:CI A) (kB:CI B):Ae Tryz.prog 75 [.agg (Ao A),.agg (Ao B)] (.agg (Ao (GU A B))):=by
 have hB:A2=1000000000:=rfl;have hAl:=kA.cells;have hBl:=kB.cells;have sA:=GV kA.ok.parts.2.2.2;have sB:=GV kB.ok.parts.2.2.2;have c1:=Qf B.cells (by omega) sB;have cl:=fun c hc=>L9 B.cells c (by omega) hc sB;have c3:=ZT A B kA.ok kB.ok;have hA6:=kA.len;have c4:=Ab7 (A8 A ||| A8 B) A.shape (A.cells.map (Ags B.cells)) (by omega);have lA:=AK A;have lB:=AK B;unfold XQ at c1;unfold GU;generalize Ab3 (MZ B.cells)=R at c1 cl;have hCS:∀ j c,A.cells[j]? = some c→(A.cells.map (Ags B.cells))[j]? = some (BV (if C1 B.cells c ≥ 0 then 1 else 0)):=fun j c h=>by rw [List.getElem?_map,h]; rfl
 have hCl:(A.cells.map (Ags B.cells)).length=A.cells.length:=List.length_map ..;generalize A.cells.map (Ags B.cells)=CS at *;have e0:=DI Au Bd CS;rw [hCl] at e0;have c5:=DJ 0 (by omega) (by omega);have c6:=DJ 1 (by omega) (by omega);refine AE Q6 QV fun C hC => ?_;refine Aj ?_;intro ds;refine Aj ?_
 refine Ai [2,3,4,5,6,19,20] [0,1,2] (fun k:Nat=>[(21,nA k)]) (fun k=>[(3,some ⟨true,false,43,7,Gk Au Bd CS k⟩)]) 4
  (fun k=>k≤A.cells.length) (fun k=>A.cells.length - k) 0 (Nat.zero_le _) ?_ (hh:=by rw [← e0]; simp only [Int.toNat_natCast]; rfl)
 intro k hk;dsimp only [List.cons_append,List.nil_append] at hk ⊢;clear c1;by_cases hlt:k<A.cells.length
 ·obtain ⟨c,hc⟩:∃ c,A.cells[k]? = some c:=⟨_,List.getElem?_eq_getElem hlt⟩
  have hck:=A9 hc;have c2:=cl c (sA c (List.mem_of_getElem? hc));have hset:=DY Au Bd CS k _ (hCS k c hc);have hget:=DX Au Bd CS k (by omega);have hll:=DW Au Bd CS k (by omega);clear c3 c4 hCS;by_cases hq:C1 B.cells c ≥ 0
  ·rw [if_pos hq] at hset
   clear c5;refine Aj ?_;exact ⟨k+1,by omega,by omega,BI hC.m [] (by rw [← hset]; rfl)⟩
  ·rw [if_neg hq] at hset
   clear c6;refine Aj ?_;exact ⟨k+1,by omega,by omega,BI hC.m [] (by rw [← hset]; rfl)⟩
 ·rw [DZ Au Bd CS k (by omega),show CS.map Au=CS.map Av from by simp [Bv]]
  refine A4 3 rfl ?_;refine Aj ?_;exact Am
theorem AkV (A B:Al) (kA:CI A) (kB:CI B):Ae Tryz.prog 76 [.agg (Ao A),.agg (Ao B)] (.tup [.agg (Ao (IH A B).1),nA (IH A B).2]):=by
 have hB:A2=1000000000:=rfl;have hAl:=kA.cells;have hBl:=kB.cells;have sA:=GV kA.ok.parts.2.2.2;have sB:=GV kB.ok.parts.2.2.2;have c1:=AeU B.cells A.cells false (by omega) (by omega) sB sA;have hlen:=J0 B.cells A.cells false
 have c2:=Jb (A.cells++CB B.cells A.cells false) (by rw [List.length_append]; omega) (fun c hc=>by
  rcases List.mem_append.1 hc with h|h
  ·exact (sA c h).lens
  ·exact (sB c (List.mem_filter.1 h).1).lens)
 have c3:=ZT A B kA.ok kB.ok;have c4:=Gu (.mk 0 [((A.cells++CB B.cells A.cells false).length:Int)] (A.cells++CB B.cells A.cells false)) (A8 A ||| A8 B) (by show 0<_; omega) (Nat.or_lt_two_pow (n:=64) (Bg A kA.ok) (Bg B kB.ok));have ls:=Ac .i64 A.shape;have lt:=Ac .i64 B.shape;have lA:=AK A;unfold IH;generalize CB B.cells A.cells false=T at *;have lT:((T.map Av).length:Int)=T.length:=by simp
 have hap:A.cells.map Av++T.map Av=(A.cells++T).map Av:=List.map_append.symm;generalize FQ (.mk 0 [((A.cells++T).length:Int)] (A.cells++T)) (A8 A ||| A8 B)=Z at *;refine AE SB Sp fun C hC => ?_;by_cases h1:A.shape.length > 1
 ·rw [if_pos (.inl h1)]
  refine Aj ?_;intro ds;refine Aj ?_;exact Am
 by_cases h2:B.shape.length > 1
 ·rw [if_pos (.inr h2)]
  refine Aj ?_;intro ds;refine Aj ?_;exact Am
 rw [if_neg (by omega)];by_cases h3:A.cells.length+T.length > 2048
 ·rw [if_pos h3]
  refine Aj ?_;intro ds;refine Aj ?_;exact Am
 ·rw [if_neg h3]
  rw [← hap] at c2;refine Aj ?_;intro ds;refine Aj ?_;exact Am
end Go.Proofs.YtjcolpcfcdkckaaGreat
