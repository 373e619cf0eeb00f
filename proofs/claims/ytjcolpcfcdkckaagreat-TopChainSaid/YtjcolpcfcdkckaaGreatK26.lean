/- turn.Reverse and turn.Rotate. -/
import Derived.Test.YtjcolpcfcdkckaaGreatK12
import Derived.Test.YtjcolpcfcdkckaaGreatK15
import Derived.Test.YtjcolpcfcdkckaaGreatK22
set_option maxHeartbeats 4000000
namespace Go.Proofs.YtjcolpcfcdkckaaGreat
set_option linter.unusedVariables false
open Go.RowKit
theorem Amg (d:List Int) (x:Nat) (j b n:Int) (hj:d[x]? = some j) (h0:0≤j) (hb:0≤b) (hj1:j≤1000000) (hb1:b≤1000000) (hn:0<n) (hl:d.length≤1000) :
 Dn Tryz.prog 61 [.own 0,.ep 1 [[.lit (.int .i64 (x:Nat))]] 0 0,.ep 1 [[.lit (.int .i64 b)]] 0 0,.ep 1 [[.lit (.int .i64 n)]] 0 0] [(0,some ⟨true,false,3,1,Ab .i64 d⟩)] 1 (.tup []) [(0,some ⟨true,false,3,1,Ab .i64 (d.set x ((j+b) % n))⟩)] 1:=by
 have hx:=(List.getElem?_eq_some_iff.1 hj).1;have ls:=Ac .i64 d;have hjk:(Ab .i64 d)[((x:Nat):Int).toNat]? = some [.lit (.int .i64 j)]:=Az hj;have hset:=Bu .i64 d x ((j+b) % n);refine BK N5 fun C hC => ?_;refine Af ?_;rw [← hset];exact BZ []
theorem Amh (d:List Int) (x:Nat) (j n:Int) (hj:d[x]? = some j) (h0:0≤j) (hj1:j≤1000000) (hn:0≤n) (hn1:n≤1000000) (hl:d.length≤1000) :
 Dn Tryz.prog 85 [.own 0,.ep 1 [[.lit (.int .i64 n)]] 0 0,.ep 1 [[.lit (.int .i64 (x:Nat))]] 0 0] [(0,some ⟨true,false,3,1,Ab .i64 d⟩)] 1 (.tup []) [(0,some ⟨true,false,3,1,Ab .i64 (d.set x (n - 1 - j))⟩)] 1:=by
 have hx:=(List.getElem?_eq_some_iff.1 hj).1;have ls:=Ac .i64 d;have hjk:(Ab .i64 d)[((x:Nat):Int).toNat]? = some [.lit (.int .i64 j)]:=Az hj;have hset:=Bu .i64 d x (n - 1 - j);refine BK MR fun C hC => ?_;refine Af ?_;rw [← hset];exact BZ []
def Ol (A:Al) (first:Bool):Nat:=if first then 0 else A.shape.length - 1
theorem AbL (A:Al) (first:Bool) (h:A.shape=[]):Ae Tryz.prog 59 [.agg (Ao A),.lit (.bool first)] (.tup [.lit (.int .i64 0),.lit (.bool false)]):=by
 refine Aa Kg fun C hC => ?_;unfold Ao;rw [h];refine Af ?_;exact Am
theorem AbM (A:Al) (first:Bool) (h:A.shape.length≠0) (hl:A.shape.length≤6):Ae Tryz.prog 59 [.agg (Ao A),.lit (.bool first)] (.tup [.lit (.int .i64 (Ol A first:Nat)),.lit (.bool true)]):=by
 have ls:=Ac .i64 A.shape;refine Aa Kg fun C hC => ?_;cases first
 ·rw [show ((Ol A false:Nat):Int)=(A.shape.length:Int) - 1 from by simp [Ol]; omega]
  refine Af ?_;exact Am
 ·rw [show ((Ol A true:Nat):Int)=0 from rfl]
  refine Af ?_;exact Am
def BA (A:Al) (first:Bool):Nat:=(A.shape.getD (Ol A first) 0).toNat
def Fl (A:Al) (first:Bool):Nat:=BL A.shape (Ol A first)
def Om (A:Al) (first:Bool):Al:=if A.shape=[] then A else .mk A.s A.shape (CX A.cells (fun i=>MU (BA A first) (Fl A first) (BA A first - 1 - jOf (BA A first) (Fl A first) i) i))
def KD (A:Al) (first:Bool) (z:Int):List Ah:=if A.shape=[] then A.cells else CX A.cells (fun i=>MU (BA A first) (Fl A first) ((jOf (BA A first) (Fl A first) i+(z % (BA A first:Nat)).toNat) % BA A first) i)
theorem Aiq {A:Al} (hA:CI A) (first:Bool) (h:A.shape≠[]):A.shape[Ol A first]? = some ((BA A first:Nat):Int)∧BA A first≤2048:=by
 have h0:A.shape.length≠0:=fun e=>h (List.eq_nil_of_length_eq_zero e);have hx:Ol A first<A.shape.length:=by unfold Ol; split<;>omega
 obtain ⟨z,hz⟩:∃ z,A.shape[Ol A first]? = some z:=⟨_,List.getElem?_eq_getElem hx⟩;have hs:=hA.small z (List.mem_of_getElem? hz)
 have:BA A first=z.toNat:=by unfold BA; rw [List.getD_eq_getElem?_getD,hz]; rfl
 rw [hz,this];exact ⟨by congr 1; omega,by omega⟩
theorem Nc {A:Al} (hA:CI A) (first:Bool) (h:A.shape≠[]) (hc:0<A.cells.length):Ax A.shape (Ol A first) (BA A first) (Dl A.shape (Ol A first)) (Fl A first) :=
 Am8 hA.e (Aiq hA first h).1 (by rw [hA.c]; omega)
theorem L3 {A:Al} {s:List Int} {g:List Int→List Int} {p:Nat→Nat} (h:∀ i,i<A.cells.length→idx A.shape (g (AQ s (i:Int)).2)=(((p i:Nat):Int),true)):FL A s g=CX A.cells p:=by
 show CX A.cells (fun i=>(idx A.shape (g (AQ s (i:Int)).2)).1.toNat)=_;exact Aby fun i hi=>by rw [h i hi]; simp
theorem Ax.idx {A:Al} (hA:CI A) {x L Ad B:Nat} (K:Ax A.shape x L Ad B) {i k:Nat} (hi:i<A.cells.length) (hk:k<L):idx A.shape ((AQ A.shape (i:Int)).2.set x (k:Int))=(((MU L B k i:Nat):Int),true)∧MU L B k i<A.cells.length:=by
 have hc:=hA.c;have hp:=hA.prod;rw [K.c] at hc;have hlt:MU L B k i<Ad * (L * B):=Al5 K.B_pos hk (by omega);rw [(K.dig i).2 k hk];exact ⟨Abz K.h K.pos (by omega),by omega⟩
theorem Xy (A:Al) (first:Bool) (hA:CI A):Ae Tryz.prog 28 [.agg (Ao A),.lit (.bool first)] (.agg (Ao (Om A first))):=by
 have hl:=hA.len;unfold Om;by_cases h:A.shape=[]
 ·rw [if_pos h]
  have c1:=AbL A first h
  refine AE HX HY fun C hC => ?_;refine Af ?_;intro ds;refine Af ?_;exact Am
 ·rw [if_neg h]
  have h0:A.shape.length≠0:=fun e=>h (List.eq_nil_of_length_eq_zero e);have c1:=AbM A first h0 hl
  obtain ⟨hz,hz1⟩:=Aiq hA first h
  have hzk:(Ab .i64 A.shape)[((Ol A first:Nat):Int).toNat]? = some [.lit (.int .i64 ((BA A first:Nat):Int))]:=Az hz;have hxl:=(List.getElem?_eq_some_iff.1 hz).1;have ls:=Ac .i64 A.shape
  have hk:∀ i,i<A.cells.length→(AbA (Ol A first) (fun j=>(BA A first:Nat) - 1 - j) (AQ A.shape (i:Int)).2)=(AQ A.shape (i:Int)).2.set (Ol A first) ((BA A first - 1 - jOf (BA A first) (Fl A first) i:Nat):Int)∧BA A first - 1 - jOf (BA A first) (Fl A first) i<BA A first:=fun i hi=>by
   have K:=Nc hA first h (by omega)
   have hj:=U7 (B:=Fl A first) K.L_pos i
   have:=K.L_pos
   unfold AbA;rw [K.getD i];exact ⟨by congr 1; dsimp only; omega,by omega⟩
  have c2:=Aia A hA.ok A.shape 85 (.lit (.int .i64 ((BA A first:Nat):Int))) (.lit (.int .i64 ((Ol A first:Nat):Int))) (AbA (Ol A first) (fun j=>(BA A first:Nat) - 1 - j)) hA.e hA.c hA.cells
   (fun i hi=>by
    have K:=Nc hA first h (by omega)
    have hj:=U7 (B:=Fl A first) K.L_pos i;have hd:=(K.dig i).1
    have:=Amh (AQ A.shape (i:Int)).2 (Ol A first) _ ((BA A first:Nat):Int) hd (by omega) (by omega) (by omega) (by omega) (by rw [Ch]; omega)
    unfold AbA;rw [K.getD i];exact this)
   (fun i hi=>by
    have K:=Nc hA first h (by omega)
    obtain ⟨k1,k2⟩:=hk i hi;obtain ⟨k3,k4⟩:=K.idx hA hi k2;rw [k1];exact ⟨_,k4,k3,by rw [List.length_set,Ch]; omega⟩)
  rw [L3 (p:=fun i=>MU (BA A first) (Fl A first) (BA A first - 1 - jOf (BA A first) (Fl A first) i) i) (fun i hi=>by
      have K:=Nc hA first h (by omega)
      obtain ⟨k1,k2⟩:=hk i hi;rw [k1];exact (K.idx hA hi k2).1)] at c2
  generalize CX A.cells (fun i=>MU (BA A first) (Fl A first) (BA A first - 1 - jOf (BA A first) (Fl A first) i) i)=R at c2 ⊢;generalize Ol A first=x at *
  generalize BA A first=L at *
  clear hk;refine AE HX HY fun C hC => ?_;refine Af ?_;intro ds;refine Af ?_;refine A4 2 rfl ?_;refine A4 3 rfl ?_;refine Af ?_;exact Am
theorem AbN {P:Program} {C:EH} {Q:Exit→St→Prop} {st:St} {c:Bi} (L H:List Nat) (n:Nat) {kt:List (Nat × AV)} {kh:Hp} (h:AW P C c Q ⟨kt,kh,n⟩)
 (et:(L.map fun k=>(k,Fu st.t k))=kt:=by rfl) (eh:(H.map fun k=>(k,hl st.h k))=kh:=by rfl) (hn:Nat.ble st.nx n=true:=by rfl):AW P C c Q st:=by
 subst et eh;exact DM (QS L H n (Nat.ble_eq ▸ hn)) h
def IF (A:Al) (l:Nat):Al:=.mk (A.s ||| l) A.shape A.cells
theorem AeG (A:Al) (l:Nat) (hs:A.s<18446744073709551616) (hl:l<18446744073709551616):Ae Tryz.prog 58 [.agg (Ao A),CG l] (.agg (Ao (IF A l))):=by
 have c1:=FF A.s l hs hl;refine Aa IV fun C hC => ?_;refine Af ?_;exact Am
theorem Xz {A:Al} (hA:CI A) {l:Nat} (hl:l<18446744073709551616):CI (IF A l):=by
 refine ⟨?_,hA.e,hA.c⟩;obtain ⟨a1,a2,a3,a4⟩:=hA.ok.parts;simp only [IF,okA];exact ⟨C6 _ _ a1 hl,a2,a3,a4⟩
theorem Air (z:Int) (L:Nat) (h:0<L) : -(L:Int)<z.tmod L∧z.tmod L<L∧(z.tmod L+L) % L=z % L:=by
 have h1:=Int.tmod_lt_of_pos z (show (0:Int)<L by omega)
 have h2 : -(L:Int)<z.tmod L:=by
  have:=Int.tmod_lt_of_pos (-z) (show (0:Int)<L by omega)
  rw [Int.neg_tmod] at this; omega
 refine ⟨h2,h1,?_⟩;have h3:=Int.mul_tdiv_add_tmod z L;rw [Int.add_emod_right]
 conv=>rhs; rw [← h3]
 rw [Int.mul_add_emod_self_left]
def IG (K A:Al) (first:Bool):Al × Int:=if (AB K).2≠0 then (.mk 0 [] [],(AB K).2) else match (AB K).1 with|[z]=>(.mk (A.s ||| A8 K) A.shape (KD A first z),0)|_=>(.mk 0 [] [],4)
theorem Ais (l:List Int):(∃ a,l=[a])∨l.length≠1:=by
 match l with
 | []=>right; simp
 | [a]=>left; exact ⟨a,rfl⟩
 | _::_::_=>right; simp
theorem AbO {K A:Al} {first:Bool} (h0:(AB K).2=0) (h:(AB K).1.length≠1):IG K A first=(.mk 0 [] [],4):=by
 unfold IG;rw [if_neg (by simp [h0])];split
 ·rename_i z e; rw [e] at h; simp at h
 ·rfl
theorem AeH {K A:Al} {first:Bool} {z:Int} (h0:(AB K).2=0) (h:(AB K).1=[z]):IG K A first=(.mk (A.s ||| A8 K) A.shape (KD A first z),0):=by
 unfold IG;rw [if_neg (by simp [h0]),h]
theorem AbP (K A:Al) (first:Bool) (hK:arrOK K) (kK:CI K) (hA:CI A):Ae Tryz.prog 19 [.agg (Ao K),.agg (Ao A),.lit (.bool first)] (.tup [.agg (Ao (IG K A first).1),.lit (.int .i64 (IG K A first).2)]):=by
 have hl:=hA.len;have c0:=Ef K hK kK.ok;have lK:=Ac .i64 (AB K).1;by_cases h0:(AB K).2=0
 ·rcases Ais (AB K).1 with ⟨z,hz⟩|hne
  ·rw [AeH h0 hz]
   have hzk:(Ab .i64 (AB K).1)[(0:Int).toNat]? = some [.lit (.int .i64 z)]:=by rw [hz]; rfl
   have hzl:(((AB K).1.length:Nat):Int)=1:=by rw [hz]; rfl
   rw [h0] at c0;have htl:=Bg K kK.ok;have c1:=C9 K kK.ok;have c2:=AeG A (A8 K) hA.ok.parts.1 htl;have kR:=Xz hA htl;generalize A8 K=T at *;generalize (AB K).1=l at *;by_cases h:A.shape=[]
   ·have c3:=AbL A first h
    have e:(Al.mk (A.s ||| T) A.shape (KD A first z))=IF A T:=by unfold KD IF; rw [if_pos h]
    rw [e];generalize IF A T=R at c2 ⊢;clear kR;refine AE Dj Dk fun C hC => ?_;refine Af ?_;intro ds;refine Af ?_;exact Am
   ·have hs0:A.shape.length≠0:=fun e=>h (List.eq_nil_of_length_eq_zero e)
    have c3:=AbM A first hs0 hl
    obtain ⟨hx,hx1⟩:=Aiq hA first h
    have hxk:(Ab .i64 A.shape)[((Ol A first:Nat):Int).toNat]? = some [.lit (.int .i64 ((BA A first:Nat):Int))]:=Az hx;have hxl:=(List.getElem?_eq_some_iff.1 hx).1;have ls:=Ac .i64 A.shape;by_cases hL:BA A first=0
    ·have hnil:A.cells=[]:=by
      have hp:=hA.prod;rw [Hx hx,Cq,Cy,hL] at hp;simp at hp;exact List.eq_nil_of_length_eq_zero (by omega)
     have e:(Al.mk (A.s ||| T) A.shape (KD A first z))=IF A T:=by unfold KD IF; rw [if_neg h,hnil]; rfl
     rw [e];have hL':((BA A first:Nat):Int)=0:=by omega
     generalize IF A T=R at c2 ⊢;generalize Ol A first=x at *
     generalize BA A first=L at *
     clear kR e hnil;refine AE Dj Dk fun C hC => ?_;refine Af ?_;intro ds;refine Af ?_;exact Am
    ·have hL0:0<BA A first:=by omega
     obtain ⟨t1,t2,t3⟩:=Air z (BA A first) hL0;have hb0:0≤(z.tmod (BA A first)+BA A first) % BA A first:=Int.emod_nonneg _ (by omega)
     have hb1:(z.tmod (BA A first)+BA A first) % BA A first<BA A first:=Int.emod_lt_of_pos _ (by omega)
     have hk:∀ i,i<A.cells.length→(AbA (Ol A first) (fun j=>(j+(z.tmod (BA A first)+BA A first) % BA A first) % (BA A first:Nat)) (AQ A.shape (i:Int)).2)=(AQ A.shape (i:Int)).2.set (Ol A first) (((jOf (BA A first) (Fl A first) i+(z % (BA A first:Nat)).toNat) % BA A first:Nat):Int)∧(jOf (BA A first) (Fl A first) i+(z % (BA A first:Nat)).toNat) % BA A first<BA A first:=fun i hi=>by
      have K:=Nc hA first h (by omega)
      unfold AbA;rw [K.getD i];refine ⟨?_,Nat.mod_lt _ hL0⟩;congr 1;dsimp only;rw [t3] at hb0 hb1 ⊢;rw [Int.natCast_emod,Int.natCast_add,Int.toNat_of_nonneg hb0]
     have c4:=Aib (IF A T) kR.ok A.shape 61 (.lit (.int .i64 ((Ol A first:Nat):Int))) (.lit (.int .i64 ((z.tmod (BA A first)+BA A first) % BA A first))) (.lit (.int .i64 ((BA A first:Nat):Int)))
      (AbA (Ol A first) (fun j=>(j+(z.tmod (BA A first)+BA A first) % BA A first) % (BA A first:Nat))) hA.e hA.c hA.cells
      (fun i hi=>by
       have hi:i<A.cells.length:=hi;have K:=Nc hA first h (by omega)
       have hj:=U7 (B:=Fl A first) K.L_pos i;have hd:=(K.dig i).1
       have:=Amg (AQ A.shape (i:Int)).2 (Ol A first) _ ((z.tmod (BA A first)+BA A first) % BA A first) ((BA A first:Nat):Int) hd (by omega) hb0 (by omega) (by omega) (by omega) (by rw [Ch]; omega)
       unfold AbA;rw [K.getD i];exact this)
      (fun i hi=>by
       have hi:i<A.cells.length:=hi;have K:=Nc hA first h (by omega)
       obtain ⟨k1,k2⟩:=hk i hi;obtain ⟨k3,k4⟩:=K.idx hA hi k2;rw [k1];exact ⟨_,k4,k3,by rw [List.length_set,Ch]; omega⟩)
     rw [L3 (A:=IF A T) (p:=fun i=>MU (BA A first) (Fl A first) ((jOf (BA A first) (Fl A first) i+(z % (BA A first:Nat)).toNat) % BA A first) i) (fun i hi=>by
         have hi:i<A.cells.length:=hi;have K:=Nc hA first h (by omega)
         obtain ⟨k1,k2⟩:=hk i hi;rw [k1];exact (K.idx hA hi k2).1)] at c4
     have e:(Al.mk (A.s ||| T) A.shape (KD A first z))=.mk (IF A T).s A.shape (CX (IF A T).cells (fun i=>MU (BA A first) (Fl A first) ((jOf (BA A first) (Fl A first) i+(z % (BA A first:Nat)).toNat) % BA A first) i)):=by unfold KD IF; rw [if_neg h]; rfl
     rw [e];generalize (Al.mk (IF A T).s A.shape (CX (IF A T).cells (fun i=>MU (BA A first) (Fl A first) ((jOf (BA A first) (Fl A first) i+(z % (BA A first:Nat)).toNat) % BA A first) i)))=Z at c4 ⊢;generalize IF A T=R at c2 c4;generalize Ol A first=x at *
     generalize BA A first=L at *
     have hLne:((L:Nat):Int)≠0:=by omega
     clear hk kR e;refine AE Dj Dk fun C hC => ?_;refine Af ?_;intro ds;refine Af ?_
     refine AbN [4,6,7,9,10,12,13] [1,2,3,4,5,6,7] 8 (kt:=[(4,.optr 1 0 0),(6,.optr 2 0 0),(7,.optr 3 0 0),(9,.optr 4 0 0),(10,.optr 5 0 0),(12,.optr 6 0 0),(13,.optr 7 0 0)])
      (kh:=[(1,some ⟨false,false,26,3,[Ao A]⟩),(2,some ⟨false,false,26,3,[[.lit (.int .u64 0),.lit (.slice none 0 0),.lit (.slice none 0 0)]]⟩),(3,some ⟨false,false,30,1,[[.lit (.int .i64 0)]]⟩),(4,some ⟨false,false,26,3,[Ao R]⟩),
       (5,some ⟨false,false,3,1,[[.lit (.int .i64 (x:Nat))]]⟩),(6,some ⟨false,false,3,1,[[.lit (.int .i64 (L:Nat))]]⟩),(7,some ⟨false,false,3,1,[[.lit (.int .i64 ((z.tmod (L:Int)+L) % L))]]⟩)]) ?_
     refine A4 5 rfl ?_;refine A4 6 rfl ?_;refine A4 7 rfl ?_;refine Af ?_;exact Am
  ·rw [AbO h0 hne]
   rw [h0] at c0;have hzl:¬ (((AB K).1.length:Nat):Int)=1:=by omega
   have hkl:(AB K).1.length≤1000000000:=by
    have:=kK.cells
    unfold AB;split
    ·simp
    ·split
     ·rename_i l hl; rw [GZ hl]; simp; omega
     ·simp
   generalize (AB K).1=l at *;refine AE Dj Dk fun C hC => ?_;refine Af ?_;intro ds;refine Af ?_;exact Am
 ·unfold IG
  rw [if_pos h0];generalize (AB K).1=l at *;generalize (AB K).2=e at *;refine AE Dj Dk fun C hC => ?_;refine Af ?_;intro ds;refine Af ?_;exact Am
end Go.Proofs.YtjcolpcfcdkckaaGreat
