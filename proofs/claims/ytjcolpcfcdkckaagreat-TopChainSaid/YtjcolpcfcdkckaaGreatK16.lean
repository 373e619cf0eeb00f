/- Natural numbers of the program: compared, added, taken off. -/
import Derived.Test.YtjcolpcfcdkckaaGreatK08
import Derived.Test.YtjcolpcfcdkckaaGreatK10
set_option maxRecDepth 10000
set_option maxHeartbeats 4000000
namespace Go.Proofs.YtjcolpcfcdkckaaGreat
set_option linter.unusedVariables false
open Go.RowKit
abbrev DE (xs:List Int):OB:=⟨true,false,146,1,Ab .u32 xs⟩
theorem Cf {xs:List Int} (h:AD xs) {k:Nat} {z:Int} (hz:xs[k]? = some z):GP z:=h.at hz
theorem EF {xs:List Int} (h:AD xs):Ae Tryz.prog 235 [.sl 1 (Ab .u32 xs)] (.sl 1 (Ab .u32 (limbs (AF xs)))):=by
 have:=Lh xs
 rwa [A0 h] at this
theorem Y8 {xs:List Int} (h:AD xs) (hb:xs.length≤A2):Ae Tryz.prog 216 [.sl 1 (Ab .u32 xs)] (.sl 1 (Ab .u32 (limbs (AF xs)))):=by
 have:=QW xs hb
 rwa [A0 h] at this
theorem AeB {xs ys:List Int} (hx:AD xs) (hy:AD ys) {k:Nat} {x y:Int} (h1:xs[k]? = some x) (h2:ys[k]? = some y) (hd:xs.drop (k+1)=ys.drop (k+1)) (hlt:x<y):vI xs<vI ys:=by
 obtain ⟨k1,e1⟩:=List.getElem?_eq_some_iff.1 h1;obtain ⟨k2,e2⟩:=List.getElem?_eq_some_iff.1 h2;have s1:=Ev xs (k:=k+1) (by omega);have s2:=Ev ys (k:=k+1) (by omega);rw [A7 h1] at s1;rw [A7 h2,← hd] at s2;have b1:=Hr (hx.take k);rw [List.length_take,Nat.min_eq_left (by omega)] at b1;have b2:=BM (hy.take k);have p:=EL k
 have:=Int.mul_le_mul_of_nonneg_left (show x+1≤y by omega) (Int.le_of_lt p)
 rw [Int.mul_add,Int.mul_one] at this;omega
theorem U8 (xs ys:List Int) (hx:AD xs) (hy:AD ys):Ae Tryz.prog 219 [.sl 1 (Ab .u32 xs),.sl 1 (Ab .u32 ys)] (.lit (.int .i64 (DK (AF xs) (AF ys)))):=by
 have c1:=EF hx;have c2:=EF hy;have lxs:=Ac .u32 xs;have lt:=BT xs;rw [A0 hx] at lt;generalize AF xs=X at *;generalize AF ys=Y at *;have lX:=Ac .u32 (limbs X);have lY:=Ac .u32 (limbs Y);have oX:=Ar X;have oY:=Ar Y;have vX:=B1 X;have vY:=B1 Y;refine Aa YE fun C hC => ?_;refine DN 0 ((Ab .u32 xs).length≤281474976710656) (fun E w v h=>DO h) fun hkn => ?_;by_cases h1:(limbs X).length<(limbs Y).length
 ·have:X<Y:=by
   refine Nat.lt_of_not_le fun h => ?_
   have:=Bj h; omega
  rw [DK,if_pos this];refine Aj ?_;exact Am
 by_cases h2:(limbs Y).length<(limbs X).length
 ·have:Y<X:=by
   refine Nat.lt_of_not_le fun h => ?_
   have:=Bj h; omega
  rw [DK,if_neg (by omega),if_pos this];refine Aj ?_;exact Am
 refine Aj ?_;refine Ai [0,1,4] [] (fun k:Nat=>[(5,.lit (.int .i64 ((k:Int) - 1)))]) (fun _=>[]) 0 (fun k=>k≤(limbs X).length∧(limbs X).drop k=(limbs Y).drop k) (fun k=>k) (limbs X).length ⟨Nat.le_refl _,by rw [List.drop_length,List.drop_eq_nil_of_le (by omega)]⟩ ?_;rintro k ⟨hk,hE⟩;dsimp only [List.cons_append,List.nil_append];cases k with
 | zero =>
   have e:X=Y:=by
    have:limbs X=limbs Y:=by simpa using hE
    have h1:=B1 X;rw [this,B1] at h1;omega
   rw [DK,if_neg (by omega),if_neg (by omega)];refine Aj ?_;exact Am
 | succ k =>
   obtain ⟨x,hx1⟩:∃ x,(limbs X)[k]? = some x:=⟨_,List.getElem?_eq_getElem (by omega)⟩;obtain ⟨y,hy1⟩:∃ y,(limbs Y)[k]? = some y:=⟨_,List.getElem?_eq_getElem (by omega)⟩;have ek:(((k+1:Nat):Int) - 1).toNat=k:=by omega
   have hxk:(Ab .u32 (limbs X))[(((k+1:Nat):Int) - 1).toNat]? = some [.lit (.int .u32 x)]:=by rw [ek]; exact Az hx1
   have hyk:(Ab .u32 (limbs Y))[(((k+1:Nat):Int) - 1).toNat]? = some [.lit (.int .u32 y)]:=by rw [ek]; exact Az hy1
   by_cases q1:x<y
   ·have:=AeB oX oY hx1 hy1 hE q1
    rw [vX,vY] at this;rw [DK,if_pos (by omega)];refine Aj ?_;exact Am
   by_cases q2:y<x
   ·have:=AeB oY oX hy1 hx1 hE.symm q2
    rw [vX,vY] at this;rw [DK,if_neg (by omega),if_pos (by omega)];refine Aj ?_;exact Am
   ·have hd:(limbs X).drop k=(limbs Y).drop k:=by
     obtain ⟨k1,e1⟩:=List.getElem?_eq_some_iff.1 hx1;obtain ⟨k2,e2⟩:=List.getElem?_eq_some_iff.1 hy1;rw [List.drop_eq_getElem_cons k1,List.drop_eq_getElem_cons k2,hE,e1,e2];congr 1; omega
    refine Aj ?_;exact ⟨k,by omega,⟨by omega,hd⟩,BI hC.m [] (by rw [show ((k:Nat):Int) - 1=((k+1:Nat):Int) - 1 - 1 from by omega]; rfl)⟩
theorem F8 {P:Program} {C:EH} {Q:Exit→St→Prop} {st:St} {c:Bi} (id:Nat) {o:OB} (es':List (List AV)) (ho:hl st.h id=some o) (e:o.es=es') (h:AW P C c Q ⟨st.t,(id,some { o with es:=es' })::st.h,st.nx⟩):AW P C c Q st:=by
 subst e;refine DM (s':=⟨st.t,(id,some { o with es:=o.es })::st.h,st.nx⟩) (fun E a w R=>⟨E,R.congr (fun _=>rfl) (fun k => ?_) (Nat.le_refl _)⟩) h;by_cases hk:id=k
 ·subst hk
  rw [ho];simp [hl,look]
 ·have:Nat.beq id k=false:=by cases hb:Nat.beq id k; rfl; exact absurd (Nat.eq_of_beq_eq_true hb) hk
  simp [hl,look,this]
theorem D3 {P:Program} {C:EH} {Q:Exit→St→Prop} {st:St} {c:Bi} (L H:List Nat) (n:Nat) {kt:List (Nat × AV)} {kh:Hp} (h:AW P C c Q ⟨kt,kh,n⟩)
 (et:(L.map fun k=>(k,Fu st.t k))=kt:=by rfl) (eh:(H.map fun k=>(k,hl st.h k))=kh:=by rfl) (hn:Nat.ble st.nx n=true:=by rfl):AW P C c Q st:=by
 subst et eh;exact DM (QS L H n (Nat.ble_eq ▸ hn)) h
abbrev Aid:AV:=.lit (.slice none 0 0)
abbrev nA (k:Int):AV:=.lit (.int .i64 k)
def Akx:Bi:=match JK.body with|.seq _ (.seq _ (.seq _ r))=>r|c=>c
theorem Xt {C:EH} (hC:Aak C JK.N) (X Y:Nat) (hl:(limbs Y).length≤(limbs X).length) (hb:(limbs X).length≤100000) :
 AW Tryz.prog C Akx (Afy JK.res (.sl 1 (Ab .u32 (limbs (X+Y))))) ⟨[(0,.sl 1 (Ab .u32 (limbs X))),(1,.sl 1 (Ab .u32 (limbs Y))),(4,Aid)],[],0⟩:=by
 have lX:=Ac .u32 (limbs X);have lY:=Ac .u32 (limbs Y);have oX:=Ar X;have oY:=Ar Y;have vX:=B1 X;have vY:=B1 Y;refine Aj ?_;refine TR ?_ ?_
 ·dsimp only; rw [List.length_replicate]; omega
 refine A5 ?_;refine Ak ⟨rfl,?_⟩;refine F8 0 (Ab .u32 (limbs X)) rfl (by dsimp only; rw [List.drop_eq_nil_of_le (by rw [List.length_replicate]; omega),List.append_nil]) ?_;refine Aj ?_
 refine Ai [1,5,30] [] (fun x:Nat × Int × List Int=>[(6,B0 x.2.1),(31,nA x.1)]) (fun x=>[(0,some (DE (x.2.2++(limbs X).drop x.1)))]) 1
  (fun x=>x.1≤(limbs X).length∧x.2.2.length=x.1∧AD x.2.2∧(0≤x.2.1∧x.2.1≤1)∧vI ((limbs X).take x.1)+vI ((limbs Y).take x.1)=vI x.2.2+BB x.1 * x.2.1) (fun x=>(limbs X).length - x.1) (0,0,[]) ⟨Nat.zero_le _,rfl,AD.nil,⟨by simp,by simp⟩,by simp [vI]⟩ ?_
 rintro ⟨i,c,r⟩ ⟨hi,hr,or,⟨c0,c1⟩,hE⟩;dsimp only [List.cons_append,List.nil_append] at hi hr or c0 c1 hE ⊢;have hml:=LX (xs:=limbs X) hr hi;have lM:=Ac .u32 (r++(limbs X).drop i);have rv:=BM or;by_cases hlt:i<(limbs X).length
 ·obtain ⟨a,ha⟩:∃ a,(limbs X)[i]? = some a:=⟨_,List.getElem?_eq_getElem hlt⟩
  have hak:(Ab .u32 (r++(limbs X).drop i))[i]? = some [B0 a]:=Az ((N6 hr).trans ha);have la:=Cf oX ha;have sX:=A7 ha;have hset:=fun v=>JO (xs:=limbs X) hr hlt v;by_cases hy:i<(limbs Y).length
  ·obtain ⟨y,hy1⟩:∃ y,(limbs Y)[i]? = some y:=⟨_,List.getElem?_eq_getElem hy⟩
   have hyk:(Ab .u32 (limbs Y))[i]? = some [B0 y]:=Az hy1;have ly:=Cf oY hy1;have sY:=A7 hy1;have ca:=YV a y c la ly ⟨c0,by omega⟩;have hms:Ab .u32 ((r++[(a+y+c) % 4294967296])++(limbs X).drop (i+1))=(Ab .u32 (r++(limbs X).drop i)).set i [B0 ((a+y+c) % 4294967296)]:=by rw [Bu,hset]
   refine Aj ?_;refine ⟨(i+1,(a+y+c) / 4294967296,r++[(a+y+c) % 4294967296]),by dsimp only; omega,⟨by dsimp only; omega,by simp [hr],or.snoc (by omega) (by omega),?_,?_⟩,BI hC.m [] (by dsimp only [DE]; rw [hms]; rfl)⟩
   ·obtain ⟨l1,l2⟩:=la
    obtain ⟨l3,l4⟩:=ly;dsimp only; omega
   ·dsimp only
    rw [sX,sY,DR,hr,BX]
    have:=Int.emod_add_mul_ediv (a+y+c) 4294967296
    grind
  ·by_cases hc0:c=0
   ·subst hc0
    have hv:vI (r++(limbs X).drop i)=((X+Y:Nat):Int):=by
     rw [EV,hr]
     have:=Ev (limbs X) hi
     rw [List.take_of_length_le (show (limbs Y).length≤i by omega)] at hE;rw [Int.mul_zero] at hE;omega
    have he:=UQ (or.app (oX.drop i)) hv (by
     rw [hml];by_cases h0:X=0
     ·left; subst h0; rw [AC]; rfl
     ·right
      have:=Abk h0
      omega)
    refine Aj ?_;rw [← he];exact Am
   ·obtain rfl:c=1:=by omega
    have ca:=YV a 0 1 la ⟨by omega,by omega⟩ ⟨by omega,by omega⟩;have hms:Ab .u32 ((r++[(a+0+1) % 4294967296])++(limbs X).drop (i+1))=(Ab .u32 (r++(limbs X).drop i)).set i [B0 ((a+0+1) % 4294967296)]:=by rw [Bu,hset]
    refine Aj ?_;refine ⟨(i+1,(a+0+1) / 4294967296,r++[(a+0+1) % 4294967296]),by dsimp only; omega,⟨by dsimp only; omega,by simp [hr],or.snoc (by omega) (by omega),?_,?_⟩,BI hC.m [] (by dsimp only [DE]; rw [hms]; rfl)⟩
    ·obtain ⟨l1,l2⟩:=la
     dsimp only; omega
    ·dsimp only
     rw [sX,DR,hr,BX];rw [List.take_of_length_le (show (limbs Y).length≤i+1 by omega)];rw [List.take_of_length_le (show (limbs Y).length≤i by omega)] at hE
     have:=Int.emod_add_mul_ediv (a+0+1) 4294967296
     grind
 ·have hiX:i=(limbs X).length:=by omega
  rw [List.take_of_length_le (show (limbs Y).length≤i by omega),List.take_of_length_le (show (limbs X).length≤i by omega),vX,vY] at hE;have hd:(limbs X).drop i=[]:=List.drop_eq_nil_of_le (by omega);rw [hd,List.append_nil] at *;by_cases hc0:c=0
  ·subst hc0
   have he:=UQ (V:=X+Y) or (by rw [Int.mul_zero] at hE; omega) (by
    rw [hr];by_cases h0:X=0
    ·left; subst h0; rw [hiX,AC]; rfl
    ·right
     have:=Abk h0
     rw [hiX];omega)
   refine Aj ?_;rw [← he];exact Am
  ·obtain rfl:c=1:=by omega
   have he:=UQ (xs:=r++[1]) (V:=X+Y) (or.snoc (by omega) (by omega)) (by rw [DR,hr]; omega) (by
    right;rw [List.length_append,hr,List.length_singleton,Nat.add_sub_cancel];omega)
   have hms:Ab .u32 (limbs (X+Y))=Ab .u32 r++[[B0 1]]:=by rw [← he]; simp [Ab]
   have lr:=Ac .u32 r;have hbb:((Ab .u32 r).length+1) * 4≤140737488355328:=by omega
   refine Aj ?_;rw [hms];exact Am
theorem Al6 (xs ys:List Int) (hx:AD xs) (hy:AD ys) (lx:xs.length≤100000) (ly:ys.length≤100000):Ae Tryz.prog 243 [.sl 1 (Ab .u32 xs),.sl 1 (Ab .u32 ys)] (.sl 1 (Ab .u32 (limbs (AF xs+AF ys)))):=by
 have c1:=EF hx;have c2:=EF hy;have t1:=BT xs;have t2:=BT ys;rw [A0 hx] at t1;rw [A0 hy] at t2;generalize AF xs=X at *;generalize AF ys=Y at *;have lX:=Ac .u32 (limbs X);have lY:=Ac .u32 (limbs Y);refine Aa YF fun C hC => ?_;by_cases h:(limbs X).length<(limbs Y).length
 ·have w:=Xt hC Y X (by omega) (by omega)
  rw [Nat.add_comm] at w;refine Gh ?_;refine AH (A5 ?_);refine Ak ⟨rfl,?_⟩;refine Gh ?_;refine AH (A5 ?_);refine Ak ⟨rfl,?_⟩;refine Gh ?_;refine Gh ?_;refine AH (A5 ?_);refine Ak ⟨rfl,?_⟩;refine Ge rfl ?_;refine AH (A5 ?_);refine Ak ⟨rfl,?_⟩;exact D3 [0,1,4] [] 0 w
 ·have w:=Xt hC X Y (by omega) (by omega)
  refine Gh ?_;refine AH (A5 ?_);refine Ak ⟨rfl,?_⟩;refine Gh ?_;refine AH (A5 ?_);refine Ak ⟨rfl,?_⟩;refine Gh ?_;refine Gh ?_;refine AH (A5 ?_);refine Ak ⟨rfl,?_⟩;refine IP rfl ?_;refine OF ?_;exact D3 [0,1,4] [] 0 w
end Go.Proofs.YtjcolpcfcdkckaaGreat
