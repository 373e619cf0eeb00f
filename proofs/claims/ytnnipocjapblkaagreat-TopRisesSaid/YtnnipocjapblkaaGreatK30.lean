/- Choosing along an axis: pick.Expand. -/
import Derived.Test.YtnnipocjapblkaaGreatK29
import Derived.Test.YtnnipocjapblkaaGreatProg
import Derived.Maps.OwnRows
import Derived.Deep.AppendLies
import Derived.Deep.RegionHeld3
import Derived.WalkKit
import Derived.Test.YtnnipocjapblkaaGreatK28
set_option maxRecDepth 100000
set_option maxHeartbeats 8000000
namespace Go.Proofs.YtnnipocjapblkaaGreat
set_option linter.unusedVariables false
open Go.RowKit
theorem bitsP_mem {l:List Int} (h:bitsP l=true):∀ k ∈ l,k=0∨k=1:=fun k hk=>by
 have:=List.all_eq_true.1 h k hk
 simpa using this
theorem onesN_le (l:List Int):onesN l≤l.length:=List.length_filter_le _ _
theorem onesN_takeLe (l:List Int) (j:Nat):onesN (l.take j)≤l.length:=Nat.le_trans (onesN_le _) (by simp; omega)
theorem expand_a (N A:Arr) (first:Bool) (hN:arrOK N) (kN:okJ N) (kA:okJ A):ACalls Tryz.prog 86 [.agg (arrV N),.agg (arrV A),.lit (.bool first)] (.tup [.agg (arrV (expP N A first).1),nA (expP N A first).2]):=by
 have hB:maxB=1000000000:=rfl
 have c0:=arrInts_a N hN kN.ok
 have ll:=intsA_len .i64 (intsR N).1
 have hle:=intsR_len kN.cells
 have c1:=bits_a (intsR N).1 (by omega)
 have c2:=paxes_a A first kA.len
 obtain ⟨lo,hx,hxg,hlo,hsm,h6,hpr,hxl⟩:=pax_ok kA first
 have hAs:=kA.ok.parts.1
 have hAl:=kA.cells
 have rowsC:=fun F h1 h2=>rows_a N A (paxS A) (paxN A first) lo F kN.ok hAs hAl hsm h6 hpr hx h1 h2
 have ls:=intsA_len .i64 (paxS A)
 have hxk:=int_at (k:=.i64) hx
 have hx6:paxN A first<6:=by omega
 unfold expP
 rw [hxg]
 generalize paxS A=s at *
 generalize paxN A first=x at *
 by_cases h0:(intsR N).2=0
 ·rw [h0] at c0
  rw [if_neg (fun h=>h h0)]
  clear h0
  generalize (intsR N).1=l at *
  cases hb:bitsP l
  ·rw [hb] at c1
   rw [if_pos rfl]
   clear rowsC
   refine acalls_defer code_pick_Expand (by simp [fn_pick_Expand]) idle_pick_Expand fun C hC => ?_
   refine wk5 ?_
   intro ds
   refine wk5 ?_
   exact fin
  ·rw [hb] at c1
   rw [if_neg (by simp)]
   have hbits:=bitsP_mem hb
   have hFl:=expL_len 0 l
   have hFr:=expL_lt 0 l
   have hFa:=fun i k h=>expL_at l 0 i k h
   have hon:=onesN_le l
   generalize expL 0 l=F at *
   have hZl:(List.replicate l.length (0:Int)).length=l.length:=List.length_replicate
   have e0:List.replicate l.length [AV.lit (.int .i64 0)]=intsA .i64 (updK F (List.replicate l.length 0) 0):=by rw [updK_zero]; simp [intsA]
   refine acalls_defer code_pick_Expand (by simp [fn_pick_Expand]) idle_pick_Expand fun C hC => ?_
   refine wk5 ?_
   intro ds
   refine wk5 ?_
   refine aw_loopB [3,4,6,7,9,10,39,40,11] [0,1,2,3] (fun j:Nat=>[(12,nA (onesN (l.take j))),(41,nA j)]) (fun j=>[(4,some ⟨true,false,3,1,intsA .i64 (updK F (List.replicate l.length 0) j)⟩)]) 5
    (fun j=>j≤l.length) (fun j=>l.length - j) 0 (Nat.zero_le _) ?_ (hh:=by rw [← e0]; simp only [Int.toNat_natCast]; rfl)
   intro j hj
   dsimp only [List.cons_append,List.nil_append] at hj ⊢
   clear c0 c1 c2 e0
   have lR:=intsA_len .i64 (updK F (List.replicate l.length 0) j)
   rw [updK_len (by omega) (by omega),hZl] at lR
   have hjo:=onesN_takeLe l j
   by_cases hlt:j<l.length
   ·obtain ⟨k,hk⟩:∃ k,l[j]? = some k:=⟨_,List.getElem?_eq_getElem hlt⟩
    have hkk:=int_at (k:=.i64) hk
    have hz0:(List.replicate l.length (0:Int))[j]? = some 0:=by rw [List.getElem?_replicate,if_pos hlt]
    have old:=int_at (k:=.i64) ((updK_get (F:=F) (b:=List.replicate l.length 0) (by omega) (by omega:j<F.length)).trans hz0)
    have hF:=hFa j k hk
    have hon1:=oneN_take hk
    clear rowsC
    by_cases hk1:k=1
    ·subst hk1
     rw [if_pos rfl] at hF hon1
     rw [Nat.zero_add] at hF
     have set1:((intsA .i64 (updK F (List.replicate l.length 0) j)).set j [.lit (.int .i64 (-1))]).set j [.lit (.int .i64 (onesN (l.take j):Nat))]=intsA .i64 (updK F (List.replicate l.length 0) (j+1)):=by
      rw [List.set_set,← updK_set (by omega) hF]; simp [intsA,List.map_set]
     have hon2:((onesN (l.take (j+1)):Nat):Int)=(onesN (l.take j):Int)+1:=by omega
     generalize onesN (l.take j)=o0 at *
     generalize intsA .i64 (updK F (List.replicate l.length 0) j)=R at *
     have lR2:((R.set j [.lit (.int .i64 (-1))]).length:Int)=l.length:=by rw [List.length_set]; exact lR
     have got:(R.set j [.lit (.int .i64 (-1))])[j]? = some [.lit (.int .i64 (-1))]:=List.getElem?_set_self (by omega)
     refine wk5 ?_
     exact ⟨j+1,by omega,by omega,wkR hC.m [] (by rw [hon2,← set1]; rfl)⟩
    ·rw [if_neg hk1] at hF hon1
     have set1:(intsA .i64 (updK F (List.replicate l.length 0) j)).set j [.lit (.int .i64 (-1))]=intsA .i64 (updK F (List.replicate l.length 0) (j+1)):=by
      rw [← updK_set (by omega) hF]; simp [intsA,List.map_set]
     rw [Nat.add_zero] at hon1
     refine wk5 ?_
     exact ⟨j+1,by omega,by omega,wkR hC.m [] (by rw [hon1,← set1]; rfl)⟩
   ·obtain rfl:j=l.length:=by omega
    have eF:updK F (List.replicate l.length 0) l.length=F:=by
     rw [← hFl,updK_end]; unfold updE; rw [List.drop_of_length_le (by simp),List.append_nil]
    rw [eF] at lR ⊢
    rw [List.take_of_length_le (Nat.le_refl _)]
    clear hjo hFa
    by_cases h1:(lo:Int)=1
    ·rw [if_pos (show (lo:Int)=1 from h1)]
     have lM:(F.map fun k=>min k 0).length=F.length:=List.length_map ..
     have hMa:∀ (i:Nat) z,F[i]? = some z→(F.map fun k=>min k 0)[i]? = some (min z 0):=fun i z h=>by rw [List.getElem?_map,h]; rfl
     have c4:=rowsC (F.map fun k=>min k 0) (by omega) (fun k hk=>by
      obtain ⟨z,_,rfl⟩:=List.mem_map.1 hk
      omega)
     clear rowsC
     generalize (F.map fun k=>min k 0)=M at *
     refine wk5 ?_
     refine aw_loopB [3,4,6,7,9,10,11,64] [0,1,2,3] (fun i:Nat=>[(65,nA i)]) (fun i=>[(4,some ⟨true,false,3,1,intsA .i64 (updK M F i)⟩)]) 5
      (fun i=>i≤F.length) (fun i=>F.length - i) 0 (Nat.zero_le _) ?_ (hh:=by rw [updK_zero]; rfl)
     intro i hi
     dsimp only [List.cons_append,List.nil_append] at hi ⊢
     have lQ:=intsA_len .i64 (updK M F i)
     rw [updK_len (by omega) (by omega)] at lQ
     by_cases hil:i<F.length
     ·obtain ⟨z,hz⟩:∃ z,F[i]? = some z:=⟨_,List.getElem?_eq_getElem hil⟩
      have old:=int_at (k:=.i64) ((updK_get (F:=M) (b:=F) (by omega) (by omega:i<M.length)).trans hz)
      have set1:(intsA .i64 (updK M F i)).set i [.lit (.int .i64 (min z 0))]=intsA .i64 (updK M F (i+1)):=by
       rw [← updK_set (by omega) (hMa i z hz)]; simp [intsA,List.map_set]
      have hmn:(z≤0∧min z 0=z)∨(0<z∧min z 0=0):=by omega
      clear c4
      generalize min z 0=mn at *
      refine wk5 ?_
      refine r_minC (a:=z) (b:=0) mn hmn ?_
      refine rrun5 ?_
      refine rg_nil ⟨rfl,?_⟩
      refine wk5 ?_
      exact ⟨i+1,by omega,by omega,wkR hC.m [] (by rw [← set1]; rfl)⟩
     ·obtain rfl:i=F.length:=by omega
      have eM:updK M F F.length=M:=by
       rw [← lM,updK_end]; unfold updE; rw [List.drop_of_length_le (by omega),List.append_nil]
      rw [eM] at lQ ⊢
      refine aw_freeze 4 rfl ?_
      refine wk5 ?_
      exact fin
    ·rw [if_neg (show ¬ ((lo:Int)=1) from h1)]
     by_cases h2:(onesN l:Int)=lo
     ·rw [if_neg (show ¬ ((onesN l:Int)≠lo) from fun h=>h h2)]
      have c4:=rowsC F (by omega) (fun k hk=>by have:=(hFr k hk).1; omega)
      clear rowsC
      refine aw_freeze 4 rfl ?_
      refine wk5 ?_
      exact fin
     ·rw [if_pos (show (onesN l:Int)≠lo from h2)]
      clear rowsC
      refine wk5 ?_
      exact fin
 ·rw [if_pos h0]
  clear rowsC c1
  generalize (intsR N).2=e at *
  generalize (intsR N).1=l at *
  refine acalls_defer code_pick_Expand (by simp [fn_pick_Expand]) idle_pick_Expand fun C hC => ?_
  refine wk5 ?_
  intro ds
  refine wk5 ?_
  exact fin
open Go.RowKit Go.Maps Go.WideMaps
open Go.ChangeShapes (lits)
theorem markLaw:Keyed Tryz.prog 22 := int_keyed Tryz.underlying22
theorem infoInt:(Tryz.prog.info? 3).map (fun i=>(i.zero,i.size,i.bytes))=some (some (.int .i64 0),1,8):=by kernel_rfl
theorem zeroInts (w:World):(zeroValue 23).run Tryz.prog w=.ok (.slice none 0 0) w:=by kernel_rfl
def itemsD {H:Type}:DataW H→List (DataW H)
 | .slice es _=>es
 | _=>[]
def plcD {H:Type} (mk:Nat→Int):Nat→DataW H
 | 0=>.map []
 | k+1=>(plcD mk k).put (.int .u64 (mk k)) (.slice (itemsD ((plcD mk k).atKey (.int .u64 (mk k)) .nil)++[.lit (.int .i64 k)]) [])
theorem plcD_step {H:Type} {w:World} {base:Nat} {e:TypeId} {v:Value} {zs:List Int} (mk:Nat→Int) (k:Nat) (ho:w.ownsInts base e .i64 v zs)
 (hat:(plcD (H:=H) mk k).atKey (.int .u64 (mk k)) .nil=rowDatum .i64 v zs):plcD (H:=H) mk (k+1)=(plcD mk k).put (.int .u64 (mk k)) (.slice (lits .i64 (zs++[(k:Int)])) []):=by
 rw [plcD,hat]
 rcases ho.datum (H:=H) with ⟨h1,rfl⟩|h1<;>rw [h1]<;>simp [itemsD,lits]
theorem groups_kept {H:Type} {P:Program} {w w':World} {k e:TypeId} {q:IntKind} {base b n:Nat} {D:DataW H} (h:w.ownsGroups P k base e q b n D) (hg:w.grownBy w' none):w'.ownsGroups P k base e q b n D:=by
 obtain ⟨es,clock,hb,F,hs,rfl,hbb,hlen,hap⟩:=h
 have hbl:=(Array.getElem?_eq_some_iff.1 hb).1
 have keep:∀ {u:Value} {ys:List Int},w.ownsInts base e q u ys→w'.ownsInts base e q u ys:=fun {u ys} ho=>ho.kept hg (by cases hu:u.ownBlock with|none=>exact .inl rfl|some g=>exact .inr (by simp))
 have hs2:∀ x ∈ es.toList,∀ z,rowElem (H:=H) w base e q x.val=some z→rowElem w' base e q x.val=some z:=by
  intro x _ z hz
  obtain ⟨ys,ho,rfl⟩:=rowElem_inv hz
  exact rowElem_mk (keep ho)
 obtain ⟨F2,hmap2,_⟩:=F.stay hs2
 refine ⟨es,clock,(hg.block b hbl (by simp)).trans hb,F2,hs,by rw [hmap2],hbb,fun x hx zs ho => ?_,hap⟩
 obtain ⟨y,hy⟩:=F.reads x hx
 obtain ⟨z,hz,_⟩:=Go.WideElems.rd_val hy
 obtain ⟨zs',ho',_⟩:=rowElem_inv hz
 rw [ho.unique (keep ho')]
 exact hlen x hx zs' ho'
theorem groups_any {H:Type} {P:Program} {w:World} {t E k e:TypeId} {q:IntKind} {base b n:Nat} {D:DataW H} (h:w.ownsGroups P k base e q b n D) (K:Keyed P k) (ht:P.underlying t=some (.map k E)) (hz:∀ w,(zeroValue E).run P w=.ok (.slice none 0 0) w) {key:Value} {kl:Lit} (hkey:keyOf P k key=some kl)
 {w1 w2:World} (e1:w1.heap[b]? = w.heap[b]?) (e2:w2.heap[b]? = w.heap[b]?) {v:Value} (hv:(Instr.lookup t (.map (some b)) key false).run P w1=.ok v w1):(Instr.lookup t (.map (some b)) key false).run P w2=.ok v w2:=by
 obtain ⟨es,clock,hb,F,_⟩:=h
 have hb1:w1.heap[b]? = some (.map es clock):=e1.trans hb
 have hb2:w2.heap[b]? = some (.map es clock):=e2.trans hb
 have uniq:∀ x ∈ es.toList,∀ y ∈ es.toList,x.key=y.key→x=y:=fun x hx y hy e=>by
  obtain ⟨i,hi⟩:=List.mem_iff_getElem?.1 hx
  obtain ⟨j,hj⟩:=List.mem_iff_getElem?.1 hy
  have hil:=(List.getElem?_eq_some_iff.1 hi).1
  have hjl:=(List.getElem?_eq_some_iff.1 hj).1
  have hnd:=F.stamped.2.2
  have:i=j:=by
   refine (List.getElem?_inj (i:=i) (j:=j) (by simpa using hil) hnd).1 ?_
   rw [List.getElem?_map,List.getElem?_map,hi,hj]
   simp [e]
  subst this
  rw [hi] at hj
  exact Option.some.inj hj
 rcases K.find w1 hkey es.toList F.keys with ⟨h1,h2⟩|⟨j,x,h1,h2,h3⟩
 ·have r1:(Instr.lookup t (.map (some b)) key false).run P w1=.ok (.slice none 0 0) w1:=by simp [Instr.lookup,run_underlying ht,MapKept.run_getObj_map hb1,K.check w1 _ hkey,h1,hz w1,Result.andThen]
  rcases K.find w2 hkey es.toList F.keys with ⟨g1,_⟩|⟨j',y,_,g2,g3⟩
  ·have r2:(Instr.lookup t (.map (some b)) key false).run P w2=.ok (.slice none 0 0) w2:=by simp [Instr.lookup,run_underlying ht,MapKept.run_getObj_map hb2,K.check w2 _ hkey,g1,hz w2,Result.andThen]
   rw [hv] at r1
   cases r1
   exact r2
  ·exact absurd g3 (h2 y (List.mem_of_getElem? g2))
 ·have r1:(Instr.lookup t (.map (some b)) key false).run P w1=.ok x.val w1:=by simp [Instr.lookup,run_underlying ht,MapKept.run_getObj_map hb1,K.check w1 _ hkey,h1,Result.andThen]
  rcases K.find w2 hkey es.toList F.keys with ⟨_,g1⟩|⟨j',y,g1,g2,g3⟩
  ·exact absurd h3 (g1 x (List.mem_of_getElem? h2))
  ·have r2:(Instr.lookup t (.map (some b)) key false).run P w2=.ok y.val w2:=by simp [Instr.lookup,run_underlying ht,MapKept.run_getObj_map hb2,K.check w2 _ hkey,g1,Result.andThen]
   obtain rfl:=uniq x (List.mem_of_getElem? h2) y (List.mem_of_getElem? g2) (h3.trans g3.symm)
   rw [hv] at r1
   cases r1
   exact r2
theorem below_grown {w w':World} (h:Below w.heap.size w w'):w.grownBy w' none:=⟨h.os,h.tape,h.output,h.size,fun i hi _=>h.block i hi⟩
theorem finder_w {H:Type} (a:Option Addr) (n cap:Nat) (CV:Nat→List Value) (mk:Nat→Int) (w:World) (hn:n≤100000)
 (hc:∀ k,k<n→∃ b off,a=some ⟨b,off,none⟩∧b<w.heap.size∧(CV k).length=7∧(∀ u ∈ CV k,u.oneCell'=true)∧∀ j u,(CV k)[j]? = some u→w.cell? ⟨b,off+(k * 7+j),none⟩=some u)
 (hm:∀ k,k<n→∀ wr,Below w.heap.size w wr→Calls Tryz.prog 159 #[.int .u64 0,.agg (CV k).toArray] wr fun e w'=>e=.returned (.int .u64 (mk k))∧Below wr.heap.size wr w')
 (hmk:∀ k,0≤mk k∧mk k<18446744073709551616) :
 Calls Tryz.prog 109 #[.slice a n cap] w fun e w'=>e=.returned (.func (.func 160) #[] #[.pointer (some ⟨w.heap.size+1+1,0,none⟩),.pointer (some ⟨w.heap.size,0,none⟩)]) ∧
  w'.cell? ⟨w.heap.size,0,none⟩=some (.slice a n cap)∧w'.cell? ⟨w.heap.size+1+1,0,none⟩=some (.map (some (w.heap.size+1))) ∧
   w'.ownsGroups (H:=H) Tryz.prog 22 (w.heap.size+3) 3 .i64 (w.heap.size+1) n (plcD mk n)∧Below w.heap.size w w':=by
 have hmm := @run_makeMap Tryz.prog
 obtain ⟨i0,hi,hz0,hz1,hz2⟩:=info_parts infoInt
 go_enter Tryz.func109,Tryz.ntmps109
 go_wp2
 go_loopw [10] (fun i wr=>∃ k:Nat,k≤n∧i=.int .i64 k∧wr.ownsGroups Tryz.prog 22 (w.heap.size+3) 3 .i64 (w.heap.size+1) k (plcD (H:=H) mk k)∧Below w.heap.size w wr∧w.heap.size+3≤wr.heap.size ∧
  wr.cell? ⟨w.heap.size,0,none⟩=some (.slice a n cap)∧wr.cell? ⟨w.heap.size+1+1,0,none⟩=some (.map (some (w.heap.size+1))))
  (fun i _=>n - (Go.RowKit.intOf i).toNat)
 case atStart =>
  refine ⟨0,Nat.zero_le _,rfl,?_,?_,?_,?_,?_⟩
  ·refine groups_kept ?_ (World.grownBy_alloc _ _ none)
   exact ⟨#[],0,by have:=(MapKept.heap_alloc (w.alloc (.cells #[.slice a n cap] 24)) (.map #[] 0)).1; simpa using this,⟨by simp,MapKept.stamped_empty 0,by simp⟩,Nat.le_refl _,rfl,by omega,by simp,by simp⟩
  ·exact (((Below.refl _ _).alloc (Nat.le_refl _) _).alloc (by simp) _).alloc (by simp; omega) _
  ·simp
  ·have h1:(w.alloc (.cells #[.slice a n cap] 24)).cell? ⟨w.heap.size,0,none⟩=some (.slice a n cap):=cell_one_new w _ _ 0 _ rfl
   have h2:=(World.cell?_alloc_some _ _ (.map #[] 0) (by rw [h1]; rfl)).trans h1
   exact (World.cell?_alloc_some _ _ _ (by rw [h2]; rfl)).trans h2
  ·have e:((w.alloc (.cells #[.slice a n cap] 24)).alloc (.map #[] 0)).heap.size=w.heap.size+1+1:=by simp
   have h1:=cell_one_new ((w.alloc (.cells #[.slice a n cap] 24)).alloc (.map #[] 0)) (.map (some (w.heap.size+1))) 147 0 _ rfl
   rw [e] at h1
   exact h1
 case round =>
  obtain ⟨k,hk,rfl,hown,hnx,hws,hl,hp⟩:=hrel
  by_cases hlt:k<n
  ·obtain ⟨b,off,rfl,hbl,hl7,hones,hcc⟩:=hc k hlt
   obtain ⟨c0,c1,c2,c3,c4,c5,c6,hcv⟩:∃ c0 c1 c2 c3 c4 c5 c6,CV k=[c0,c1,c2,c3,c4,c5,c6]:=by
    generalize CV k=l at hl7 ⊢
    match l,hl7 with
    | [c0,c1,c2,c3,c4,c5,c6],_=>exact ⟨_,_,_,_,_,_,_,rfl⟩
   have hmr:=hm k hlt
   rw [hcv] at hcc hones hmr
   have hw:∀ j u,[c0,c1,c2,c3,c4,c5,c6][j]? = some u→wr.cell? ⟨b,off+k * 7+j,none⟩=some u:=fun j u hu=>by rw [Nat.add_assoc]; exact (hnx.cell (by exact hbl)).trans (hcc j u hu)
   have h0:wr.cell? ⟨b,off+k * 7,none⟩=some c0:=hw 0 c0 rfl
   have h1:=hw 1 c1 rfl
   have h2:=hw 2 c2 rfl
   have h3:=hw 3 c3 rfl
   have h4:=hw 4 c4 rfl
   have h5:=hw 5 c5 rfl
   have h6:=hw 6 c6 rfl
   have o0:∀ w a m,(store a c0 m).run Tryz.prog w=stored Tryz.prog w a c0 m:=fun w a m=>run_store Tryz.prog w a c0 m (hones c0 (by simp))
   have o1:∀ w a m,(store a c1 m).run Tryz.prog w=stored Tryz.prog w a c1 m:=fun w a m=>run_store Tryz.prog w a c1 m (hones c1 (by simp))
   have o2:∀ w a m,(store a c2 m).run Tryz.prog w=stored Tryz.prog w a c2 m:=fun w a m=>run_store Tryz.prog w a c2 m (hones c2 (by simp))
   have o3:∀ w a m,(store a c3 m).run Tryz.prog w=stored Tryz.prog w a c3 m:=fun w a m=>run_store Tryz.prog w a c3 m (hones c3 (by simp))
   have o4:∀ w a m,(store a c4 m).run Tryz.prog w=stored Tryz.prog w a c4 m:=fun w a m=>run_store Tryz.prog w a c4 m (hones c4 (by simp))
   have o5:∀ w a m,(store a c5 m).run Tryz.prog w=stored Tryz.prog w a c5 m:=fun w a m=>run_store Tryz.prog w a c5 m (hones c5 (by simp))
   have o6:∀ w a m,(store a c6 m).run Tryz.prog w=stored Tryz.prog w a c6 m:=fun w a m=>run_store Tryz.prog w a c6 m (hones c6 (by simp))
   clear hcc hones hw hcv hl7
   have hsz:w.heap.size≤wr.heap.size:=by omega
   go_wp2_with (go_at_call 159; refine (hmr _ (hnx.alloc hsz _)).mono ?_; rintro e w2 ⟨rfl,hb2⟩)
   have hg2:wr.grownBy w2 none:=(World.grownBy_alloc _ _ _).trans (below_grown hb2)
   have hown2:=groups_kept hown hg2
   have hl2:w2.cell? ⟨w.heap.size,0,none⟩=some (.slice (some ⟨b,off,none⟩) n cap):=(hg2.cell_far ⟨w.heap.size,0,none⟩ (by show w.heap.size<wr.heap.size; omega) (by simp)).trans hl
   have hp2:w2.cell? ⟨w.heap.size+1+1,0,none⟩=some (.map (some (w.heap.size+1))):=(hg2.cell_far ⟨w.heap.size+1+1,0,none⟩ (by show w.heap.size+1+1<wr.heap.size; omega) (by simp)).trans hp
   have hws2:w.heap.size+3≤w2.heap.size:=Nat.le_trans hws hg2.size
   have hnx2:Below w.heap.size w w2:=hnx.grown hg2 hsz (fun j hj=>by cases hj)
   have hkey:keyOf Tryz.prog 22 (.int .u64 (mk k))=some (.int .u64 (mk k)):=keyOf_int_mk Tryz.underlying22 (WalkArith.wf_u64 (by have:=hmk k; omega))
   obtain ⟨v,zs,hrun,hat,hoi,hzl,hback⟩:=hown2.at markLaw Tryz.underlying147 (zeroInts _) (by unfold maxLen; omega) hkey
   have hany:=fun w' e=>groups_any hown2 markLaw Tryz.underlying147 zeroInts hkey (w1:=w2) (w2:=w') rfl e hrun
   clear h0 h1 h2 h3 h4 h5 h6 o0 o1 o2 o3 o4 o5 o6 hmr hc hm hmm hown hl hp hb2 hnx
   have hB:w.heap.size+1<w2.heap.size:=by omega
   have hq1:=hany w2.drew rfl
   have hq2:∀ o:Obj,(Instr.lookup 147 (.map (some (w.heap.size+1))) (.int .u64 (mk k)) false).run Tryz.prog (w2.alloc o).drew=.ok v (w2.alloc o).drew:=fun o=>hany _ ((World.grownBy_alloc w2 o none).block _ hB (by simp))
   have kA:∀ (X:World) (o:Obj),X.cell? ⟨w.heap.size+1+1,0,none⟩=some (.map (some (w.heap.size+1)))→(X.alloc o).cell? ⟨w.heap.size+1+1,0,none⟩=some (.map (some (w.heap.size+1))) :=
    fun X o x1=>(World.cell?_alloc_some _ _ _ (by rw [x1]; rfl)).trans x1
   have kG:∀ X Y:World,w2.heap.size≤X.heap.size→X.grownBy Y v.ownBlock→X.cell? ⟨w.heap.size+1+1,0,none⟩=some (.map (some (w.heap.size+1)))→Y.cell? ⟨w.heap.size+1+1,0,none⟩=some (.map (some (w.heap.size+1))) :=
    fun X Y hs hg x1=>by
     have hne:∀ i,i<w.heap.size+3→some i≠v.ownBlock:=fun i hi e=>by
      have:=(hoi.1.lt i e.symm).1; omega
     exact (hg.cell_far _ (by show w.heap.size+1+1<_; omega) (hne _ (by show w.heap.size+1+1<_; omega))).trans x1
   have hend:∀ (X w3:World) (gg cap1:Nat),w2.grownBy X v.ownBlock→X.grownBy w3 v.ownBlock→w3.ownsRow (w.heap.size+3) 3 1 (.slice (some ⟨gg,0,none⟩) (zs.length+1) cap1) (zs.length+1) (zs.map (Value.int .i64)++[.int .i64 k])→(v.ownBlock=some gg∨gg=w2.heap.size+1) →
    ∃ w4,(Instr.mapUpdate 147 (.map (some (w.heap.size+1))) (.int .u64 (mk k)) (.slice (some ⟨gg,0,none⟩) (zs.length+1) cap1)).run Tryz.prog w3=.ok () w4 ∧
      w4.ownsGroups Tryz.prog 22 (w.heap.size+3) 3 .i64 (w.heap.size+1) (k+1) (plcD (H:=H) mk (k+1))∧Below w.heap.size w w4∧w.heap.size+3≤w4.heap.size ∧
       w4.cell? ⟨w.heap.size,0,none⟩=some (.slice (some ⟨b,off,none⟩) n cap)∧w4.cell? ⟨w.heap.size+1+1,0,none⟩=some (.map (some (w.heap.size+1))):=by
    intro X w3 gg cap1 g1 g2 ho3 hat3
    have hall:=g1.trans g2
    have ho3':=hoi.appended ho3 (WalkArith.wf_i64 (by omega))
    have hne:∀ i,i<w.heap.size+3→some i≠v.ownBlock:=fun i hi e=>by
     have:=(hoi.1.lt i e.symm).1; omega
    obtain ⟨w4,r1,r2,r3⟩:=hback w3 _ _ hall ho3' (by simp; omega) (by
     rcases hat3 with h|h
     ·exact .inl (by rw [h]; rfl)
     ·exact .inr ⟨gg,rfl,by omega⟩)
    have hs3:=hall.size
    have hs4:=r3.size
    refine ⟨w4,r1,?_,(hnx2.grown hall (by omega) (fun j hj=>by have:=(hoi.1.lt j hj).1; omega)).grown r3 (by omega) (fun j hj=>by cases hj; omega),by omega,?_,?_⟩
    ·rw [plcD_step mk k hoi hat,← ho3'.datum_pos (by simp)]
     exact r2
    ·exact (r3.cell_far ⟨w.heap.size,0,none⟩ (by show w.heap.size<_; omega) (by simp)).trans ((hall.cell_far ⟨w.heap.size,0,none⟩ (by show w.heap.size<_; omega) (hne _ (by show w.heap.size<_; omega))).trans hl2)
    ·exact (r3.cell_far ⟨w.heap.size+1+1,0,none⟩ (by show w.heap.size+1+1<_; omega) (by simp)).trans ((hall.cell_far ⟨w.heap.size+1+1,0,none⟩ (by show w.heap.size+1+1<_; omega) (hne _ (by show w.heap.size+1+1<_; omega))).trans hp2)
   have hzl2:zs.length≤100000:=by omega
   clear hnx2 hback hat hzl
   go_region_held3 (fun w'=>w'.cell? ⟨w.heap.size+1+1,0,none⟩=some (.map (some (w.heap.size+1))))
    (first|exact hp2|exact e5|exact kA _ _ hp2|exact kA _ _ (by assumption)|exact kG _ _ (by simp) hgrow (by assumption))
    ((refine step_append_lies _ (by rfl) _ _ _ (by rfl) (w.heap.size+3) 3 i0 (.int .i64 0) 1 8 Tryz.underlying23 hi hz0 hz1 hz2 rfl (by omega) v zs.length (zs.map (Value.int .i64)) (by rfl) ((hoi.1.alloc _).drew) ⟨w2.heap.size,0,none⟩ 1 1 [.int .i64 k] (by rfl) (by rfl) (World.news_of_block (cs := #[.int .i64 k]) (t := 3) (fr:=(0,0)) (heap_alloc_new w2 _)) (by simp [Value.oneCell']) (by omega) (by unfold maxLen; omega) (by omega) (by simp; omega) (w2.heap.size+1) (by simp) ?_; intro gg cap1 w3 hown3 hgrow hat3 hlt3; obtain ⟨w4,hmu,e1,e2,e3,e4,e5⟩:=hend (w2.alloc (.cells #[.int .i64 k] 3)).drew w3 gg cap1 ⟨rfl,rfl,rfl,by simp,fun i hi _=>(World.grownBy_alloc w2 _ none).block i hi (by simp)⟩ hgrow hown3 hat3))
   all_goals
    go_wp2
    go_roundw
    case rel=>exact ⟨k+1,by omega,by go_num,e1,e2,e3,e4,e5⟩
    case measure=>simp [Go.RowKit.intOf]; omega
  ·have:k=n:=by omega
   subst this
   go_wp2
   go_ret
   exact ⟨rfl,hl,hp,hown,hnx⟩
open Go.RowKit Go.Maps
def plcM (mk:Nat→Int) (n:Nat) (q:Int):List Int:=((List.range n).filter fun i=>decide (mk i=q)).map fun (i:Nat)=>(i:Int)
theorem plcM_succ (mk:Nat→Int) (n:Nat) (q:Int):plcM mk (n+1) q=if mk n=q then plcM mk n q++[(n:Int)] else plcM mk n q:=by
 unfold plcM
 rw [List.range_succ,List.filter_append,List.map_append]
 by_cases h:mk n=q
 ·rw [if_pos h]; simp [h]
 ·rw [if_neg h]; simp [h]
theorem plcD_isMap {H:Type} (mk:Nat→Int):∀ n,IsMap (plcD (H:=H) mk n)
 | 0=>isMap_empty
 | n+1=>(plcD_isMap mk n).put _ _
theorem plcD_items {H:Type} (mk:Nat→Int) (q:Int):∀ n,itemsD ((plcD (H:=H) mk n).atKey (.int .u64 q) .nil)=lits .i64 (plcM mk n q)
 | 0=>by simp [plcD,DataW.atKey,itemsD,plcM,lits]
 | n+1=>by
   rw [plcD,plcM_succ]
   by_cases h:mk n=q
   ·subst h
    rw [atKey_put_same (plcD_isMap mk n) (by trivial),if_pos rfl,itemsD,plcD_items mk _ n]
    simp [lits]
   ·rw [atKey_put_other (by intro e; exact h (by cases e; rfl)),if_neg h,plcD_items mk q n]
theorem lits_inj {H:Type} {a b:List Int} (h:lits (H:=H) .i64 a=lits .i64 b):a=b :=
 (List.map_inj_right (fun x y e=>by cases e; rfl)).1 h
theorem rdIE_ints {im:Nat→Prop} {w:World}:∀ zs:List Int,RdIE im w 1 (intsA .i64 zs) (zs.map (Value.int .i64))
 | []=>by simp [intsA,RdIE]
 | z::zs=>by
   show RdIE im w 1 ([.lit (.int .i64 z)]::intsA .i64 zs) (Value.int .i64 z::zs.map (Value.int .i64))
   simp only [RdIE]
   exact ⟨[.int .i64 z],zs.map (Value.int .i64),rfl,rfl,⟨_,[],rfl,rfl,rfl⟩,rdIE_ints zs⟩
theorem ints_rd {w:World} {base:Nat} {e:TypeId} {v:Value} {zs:List Int} {im:Nat→Prop} (h:w.ownsInts base e .i64 v zs) (hz:zs.length≤100000) (hi:∀ b,base≤b→b<w.heap.size→im b):RdI im w (.sl 1 (intsA .i64 zs)) v:=by
 have hrow:=h.1
 rcases h.1.2 with ⟨rfl,h0⟩|⟨g,cap,cur,rfl,hg,hh,hn,hcap,_,_⟩
 ·have:zs=[]:=List.length_eq_zero_iff.1 h0
  subst this
  simp only [RdI]
  exact ⟨none,0,[],rfl,Nat.le_refl _,fun _=>rfl,Nat.zero_le _,fun i v hv=>by simp at hv,fun u hu=>by simp at hu,rdIE_ints []⟩
 ·have hl:(intsA .i64 zs).length=zs.length:=by simp [intsA]
  simp only [RdI]
  refine ⟨some ⟨g,0,none⟩,cap,zs.map (Value.int .i64),by rw [hl],by rw [hl]; exact hn,(fun h=>by cases h),by rw [hl]; unfold maxN; omega,?_,?_,rdIE_ints zs⟩
  ·intro i v hv
   refine ⟨g,0,rfl,hi g hg ?_,?_⟩
   ·exact (Array.getElem?_eq_some_iff.1 hh).1
   ·have hlt:=(List.getElem?_eq_some_iff.1 hv).1
    rw [Nat.zero_add,hrow.cellAt i (by simpa using hlt)]
    exact hv
  ·intro u hu
   obtain ⟨z,_,rfl⟩:=List.mem_map.1 hu
   rfl
theorem groups_plc {w:World} {base b n:Nat} {mk:Nat→Int} (h:w.ownsGroups (H:=Unit) Tryz.prog 22 base 3 .i64 b n (plcD mk n)) (hn:n≤100000) {im:Nat→Prop} (hi:∀ c,b≤c→c<w.heap.size→im c) :
 (plcR (plcM mk n)).p im w (.map (some b)):=by
 have h':=h
 obtain ⟨es,clock,hb,F,hs,hD,hbb,hlen,hap⟩:=h'
 have hbl:=(Array.getElem?_eq_some_iff.1 hb).1
 refine ⟨b,_,rfl,hi b (Nat.le_refl _) hbl,hb,fun k k0 k1 w' hw' => ?_⟩
 have hkey:keyOf Tryz.prog 22 (.int .u64 k)=some (.int .u64 k):=keyOf_int_mk Tryz.underlying22 (WalkArith.wf_u64 (by omega))
 obtain ⟨v,zs,hrun,hat,hoi,hzl,_⟩:=h.at markLaw Tryz.underlying147 (zeroInts _) (by unfold maxLen; omega) hkey
 refine ⟨v,groups_any h markLaw Tryz.underlying147 zeroInts hkey (w1:=w) (w2:=w') rfl (hw'.trans hb.symm) hrun,?_⟩
 have hzs:zs=plcM mk n k:=by
  have h1:=plcD_items (H:=Unit) mk k n
  rw [hat] at h1
  refine lits_inj (H:=Unit) ?_
  rw [← h1]
  rcases hoi.datum (H:=Unit) with ⟨h2,rfl⟩|h2<;>rw [h2]<;>simp [itemsD,lits]
 rw [← hzs]
 exact ints_rd hoi (by omega) (fun c hc hl=>hi c (by omega) hl)
theorem able_finder:Callable Tryz.prog 109 := ⟨_,Tryz.func109,by kernel_rfl,by kernel_rfl⟩
def findV (l:List Cell):AV:=.fn 160 [] [.ep 1 [[.sem (plcR (plcF l))]] 0 0,.ep 1 [[.sl 7 (l.map cellR)]] 0 0]
theorem finder_a (l:List Cell) (hl:l.length≤100000) (hs:∀ d ∈ l,okC d):ACalls Tryz.prog 109 [.sl 7 (l.map cellR)] (findV l):=by
 refine ⟨able_finder,fun im w vs hin hrd => ?_⟩
 simp only [RdIL] at hrd
 obtain ⟨v,rest,rfl,hv,rfl⟩:=hrd
 have hv0:=hv
 simp only [RdI] at hv
 obtain ⟨a,cap,us,rfl,hcap,hcn,hmx,hat,hone,hE⟩:=hv
 have hn:(l.map cellR).length=l.length:=by simp
 rw [hn] at hcap
 have part:∀ k,k<l.length→RdIL im w (cellV (l.getD k cellD)) ((us.drop (k * 7)).take 7)∧((us.drop (k * 7)).take 7).length=7:=fun k hk=>by
  refine RdIE.get hE (i:=k) ?_
  rw [List.getElem?_map,List.getD_eq_getElem?_getD,List.getElem?_eq_getElem hk,← cellR_eq]; rfl
 have sub:∀ k j u,((us.drop (k * 7)).take 7)[j]? = some u→us[k * 7+j]? = some u:=fun k j u h=>by
  have hj:j<7:=by have:=(List.getElem?_eq_some_iff.1 h).1; rw [List.length_take] at this; omega
  rw [List.getElem?_take_of_lt hj,List.getElem?_drop] at h
  exact h
 have hmk:∀ k,0≤markC 0 (l.getD k cellD)∧markC 0 (l.getD k cellD)<18446744073709551616:=fun k=>markC_rng _ 0 ⟨by omega,by omega⟩
 rw [hn]
 refine (finder_w (H:=Unit) a l.length cap (fun k=>(us.drop (k * 7)).take 7) (fun k=>markC 0 (l.getD k cellD)) w hl ?_ ?_ hmk).mono ?_
 ·intro k hk
  obtain ⟨p1,p2⟩:=part k hk
  have h0:∃ u,us[k * 7+0]? = some u:=by
   obtain ⟨u,hu⟩:∃ u,((us.drop (k * 7)).take 7)[0]? = some u:=⟨_,List.getElem?_eq_getElem (by rw [p2]; omega)⟩
   exact ⟨u,sub k 0 u hu⟩
  obtain ⟨u,hu⟩:=h0
  obtain ⟨b,off,e,hb,_⟩:=hat _ u hu
  refine ⟨b,off,e,hin b hb,p2,fun x hx=>hone x (List.mem_of_mem_drop (List.mem_of_mem_take hx)),fun j x hx => ?_⟩
  obtain ⟨b',off',e',_,hc⟩:=hat _ x (sub k j x hx)
  rw [e] at e'
  cases e'
  exact hc
 ·intro k hk wr hbl
  obtain ⟨p1,p2⟩:=part k hk
  have hd:l.getD k cellD ∈ l:=by rw [List.getD_eq_getElem?_getD,List.getElem?_eq_getElem hk]; exact List.getElem_mem _
  have hm:=(mark_a (l.getD k cellD) 0 (hs _ hd) ⟨by omega,by omega⟩).calls im wr [.int .u64 0,.agg ((us.drop (k * 7)).take 7).toArray] (fun b hb=>Nat.lt_of_lt_of_le (hin b hb) hbl.size) (by
   simp only [RdIL,RdI]
   exact ⟨_,_,rfl,rfl,_,_,rfl,⟨_,rfl,fun x hx=>hone x (List.mem_of_mem_drop (List.mem_of_mem_take hx)),RdIL.mono (fun _ h=>h) (fun b hb=>hbl.block b (hin b hb)) _ _ p1⟩,rfl⟩)
  refine hm.mono ?_
  rintro e w' ⟨v,im',rfl,hr,_,_,_,hbb⟩
  simp only [RdI] at hr
  subst hr
  exact ⟨rfl,hbb⟩
 ·rintro e w' ⟨rfl,hc1,hc2,hg,hb⟩
  refine ⟨_,fun b=>im b∨(w.heap.size≤b∧b<w'.heap.size),rfl,?_,fun b h=>.inl h,fun b h=>h.imp id (fun h=>h.1),fun b h=>h.elim (fun h=>Nat.lt_of_lt_of_le (hin b h) hb.size) (fun h=>h.2),hb⟩
  have hs3:w.heap.size+1+1<w'.heap.size:=World.block_lt_of_cell? w' _ hc2
  have hs1:w.heap.size<w'.heap.size:=by omega
  simp only [findV,RdI,RdIL]
  refine ⟨[],_,rfl,rfl,_,_,rfl,?_,_,_,rfl,?_,rfl⟩
  ·refine ⟨w.heap.size+1+1,0,[.map (some (w.heap.size+1))],rfl,?_,fun u hu=>by simp at hu; subst hu; rfl,?_⟩
   ·intro i u hu
    match i,hu with
    | 0,hu =>
      simp only [List.getElem?_cons_zero,Option.some.injEq] at hu
      subst hu
      exact ⟨_,_,rfl,.inr ⟨by omega,hs3⟩,hc2⟩
   ·simp only [RdIE,RdIL,RdI]
    exact ⟨[_],[],rfl,rfl,⟨_,[],rfl,groups_plc hg hl (fun c h1 h2=>.inr ⟨by omega,h2⟩),rfl⟩,rfl⟩
  ·refine ⟨w.heap.size,0,[.slice a l.length cap],rfl,?_,fun u hu=>by simp at hu; subst hu; rfl,?_⟩
   ·intro i u hu
    match i,hu with
    | 0,hu =>
      simp only [List.getElem?_cons_zero,Option.some.injEq] at hu
      subst hu
      exact ⟨_,_,rfl,.inr ⟨Nat.le_refl _,hs1⟩,hc1⟩
   ·simp only [RdIE,RdIL]
    refine ⟨[_],[],rfl,rfl,⟨_,[],rfl,?_,rfl⟩,rfl⟩
    rw [hn] at hv0
    exact RdI.mono (fun b h=>.inl h) (fun b h=>hb.block b (hin b h)) _ _ hv0
end Go.Proofs.YtnnipocjapblkaaGreat
