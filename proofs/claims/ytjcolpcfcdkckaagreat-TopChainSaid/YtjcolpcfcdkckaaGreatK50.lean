/- Every function of two arrays: the walks of prim.in, prim.more, prim.Two. -/
import Derived.Test.YtjcolpcfcdkckaaGreatK41
import Derived.Test.YtjcolpcfcdkckaaGreatK49
set_option maxRecDepth 10000
set_option maxHeartbeats 4000000
namespace Go.Proofs.YtjcolpcfcdkckaaGreat
set_option linter.unusedVariables false
open Go.RowKit
theorem Anr {d:Nat} (A B:Al) (hA:arrOK A) (kA:CI A) (tB:Gb d B):Ae Tryz.prog 23 [.agg (Ao A),.agg (Ao B)] (.tup [.agg (Ao (inP A B).1),nA (inP A B).2]):=by
 have hB:A2=1000000000:=rfl;have kB:=tB.j;have c0:=Ef A hA kA.ok;have ll:=Ac .i64 (AB A).1;have hle:=G4 kA.cells;have hBl:=kB.cells;have lB:=AK B;have ls:=Ac .i64 B.shape;unfold inP;by_cases h0:(AB A).2=0
 ·rw [h0] at c0
  rw [if_neg (fun h=>h h0)];clear h0;generalize (AB A).1=l at *;by_cases h1:l.length=1
  ·obtain ⟨z,rfl⟩:=List.length_eq_one_iff.1 h1
   rw [if_neg (fun h=>h h1)];rw [show ([z]:List Int).headD 0=z from rfl];have hz:(Ab .i64 [z])[(0:Int).toNat]? = some [.lit (.int .i64 z)]:=rfl;generalize hL:Ab .i64 [z]=L at *;have ll:(L.length:Int)=1:=ll;clear hL;by_cases h2:B.shape.length=1
   ·rw [if_neg (fun h=>h h2)]
    by_cases h3:z<1
    ·rw [if_pos (.inl h3)]
     refine Aa Eb fun C hC => ?_;refine Aj ?_;exact Am
    ·by_cases h4:z > (B.cells.length:Int)
     ·rw [if_pos (.inr h4)]
      refine Aa Eb fun C hC => ?_;refine Aj ?_;exact Am
     ·rw [if_neg (by omega)]
      have hlt:(z - 1).toNat<B.cells.length:=by omega
      have hd:B.cells[(z - 1).toNat]? = some (B.cells.getD (z - 1).toNat AS):=by rw [List.getD_eq_getElem?_getD,List.getElem?_eq_getElem hlt]; rfl
      have hdk:=A9 hd;have hdo:=tB.cell (List.mem_of_getElem? hd);have c1:=VI _ hdo
      have hus:(HC (B.cells.getD (z - 1).toNat AS)).s<18446744073709551616:=by
       have:=Ae8 kB.ok.cs (z - 1).toNat
       generalize B.cells.getD (z - 1).toNat AS=c at this;unfold HC;split
       ·rename_i h
        obtain ⟨a,ha⟩:=List.length_eq_one_iff.1 h.2;rw [ha];exact C6 _ _ (I3.1 this.parts.2.2.2.2 a (by rw [ha]; simp)).parts.1 this.parts.1
       ·exact C6 _ _ (by omega) this.parts.1
      have hjl:=C6 _ _ kB.ok.parts.1 (Bg A kA.ok);have c2:=C9 A kA.ok;have c3:=FF B.s (A8 A) kB.ok.parts.1 (Bg A kA.ok);have c4:=Gu (HC (B.cells.getD (z - 1).toNat AS)) (B.s ||| A8 A) hus hjl;generalize B.cells.getD (z - 1).toNat AS=c at *;generalize FQ (HC c) (B.s ||| A8 A)=R at *;generalize HC c=U at *;clear hle hus hjl;refine Aa Eb fun C hC => ?_;refine Aj ?_;exact Am
   ·rw [if_pos h2]
    refine Aa Eb fun C hC => ?_;refine Aj ?_;exact Am
  ·rw [if_pos h1]
   refine Aa Eb fun C hC => ?_;refine Aj ?_;exact Am
 ·rw [if_pos h0]
  generalize (AB A).2=e at *;generalize (AB A).1=l at *;refine Aa Eb fun C hC => ?_;refine Aj ?_;exact Am
theorem AmL (f:Int) {d:Nat} (A B:Al) (tA:Gb d A) (tB:Gb d B):Ae Tryz.prog 24 [nA f,.agg (Ao A),.agg (Ao B)] (.tup [.agg (Ao (Kh f d A B).1),nA (Kh f d A B).2]):=by
 have kA:=tA.j;have kB:=tB.j;have oA:=tA.arrOK;have oB:=tB.arrOK;unfold Kh;by_cases h8801:f=8801
 ·subst h8801
  rw [if_pos rfl];have c1:=Ab0 A B true kA.ok kB.ok;generalize VJ A B true=R at *;clear oA oB kA kB tA tB;refine Aa BJ fun C hC => ?_;refine Aj ?_;exact Am
 rw [if_neg h8801];by_cases h8802:f=8802
 ·subst h8802
  rw [if_pos rfl];have c1:=Ab0 A B false kA.ok kB.ok;generalize VJ A B false=R at *;clear oA oB kA kB tA tB;refine Aa BJ fun C hC => ?_;refine Aj ?_;exact Am
 rw [if_neg h8802];by_cases h9075:f=9075
 ·subst h9075
  rw [if_pos rfl];have c1:=AkU A B kA kB;generalize II A B=R at *;clear oA oB kA kB tA tB;refine Aa BJ fun C hC => ?_;refine Aj ?_;exact Am
 rw [if_neg h9075];by_cases h8714:f=8714
 ·subst h8714
  rw [if_pos rfl];have c1:=Ai3 A B kA kB;generalize GU A B=R at *;clear oA oB kA kB tA tB;refine Aa BJ fun C hC => ?_;refine Aj ?_;exact Am
 rw [if_neg h8714];by_cases h8746:f=8746
 ·subst h8746
  rw [if_pos rfl];have c1:=AkV A B kA kB;generalize IH A B=R at *;clear oA oB kA kB tA tB;refine Aa BJ fun C hC => ?_;refine Aj ?_;exact Am
 rw [if_neg h8746];by_cases h8745:f=8745
 ·subst h8745
  rw [if_pos rfl];have c1:=AeV A B true kA kB;generalize FR A B true=R at *;clear oA oB kA kB tA tB;refine Aa BJ fun C hC => ?_;refine Aj ?_;exact Am
 rw [if_neg h8745];by_cases h126:f=126
 ·subst h126
  rw [if_pos rfl];have c1:=AeV A B false kA kB;generalize FR A B false=R at *;clear oA oB kA kB tA tB;refine Aa BJ fun C hC => ?_;refine Aj ?_;exact Am
 rw [if_neg h126];by_cases h47:f=47
 ·subst h47
  rw [if_pos rfl];have c1:=AjI A B false oA kA kB;generalize Qg A B false=R at *;clear oA oB kA kB tA tB;refine Aa BJ fun C hC => ?_;refine Aj ?_;exact Am
 rw [if_neg h47];by_cases h9023:f=9023
 ·subst h9023
  rw [if_pos rfl];have c1:=AjI A B true oA kA kB;generalize Qg A B true=R at *;clear oA oB kA kB tA tB;refine Aa BJ fun C hC => ?_;refine Aj ?_;exact Am
 rw [if_neg h9023];by_cases h92:f=92
 ·subst h92
  rw [if_pos rfl];have c1:=Acw A B false oA kA kB;generalize Qh A B false=R at *;clear oA oB kA kB tA tB;refine Aa BJ fun C hC => ?_;refine Aj ?_;exact Am
 rw [if_neg h92];by_cases h9024:f=9024
 ·subst h9024
  rw [if_pos rfl];have c1:=Acw A B true oA kA kB;generalize Qh A B true=R at *;clear oA oB kA kB tA tB;refine Aa BJ fun C hC => ?_;refine Aj ?_;exact Am
 rw [if_neg h9024];have c1:=Ai9 f d A B tA tB;generalize VQ f d A B=R at *;clear oA oB kA kB tA tB;refine Aa BJ fun C hC => ?_;refine Aj ?_;exact Am
theorem Ox (f:Int) {d:Nat} (A B:Al) (tA:Gb d A) (tB:Gb d B):Ae Tryz.prog 7 [nA f,.agg (Ao A),.agg (Ao B)] (.tup [.agg (Ao (J2 f d A B).1),nA (J2 f d A B).2]):=by
 have kA:=tA.j;have kB:=tB.j;have oA:=tA.arrOK;have oB:=tB.arrOK;unfold J2;by_cases h9076:f=9076
 ·subst h9076
  rw [if_pos rfl];have c1:=Ani A B oA kA kB.ok.parts.1 kB.cells;generalize VS A B=R at *;clear oA oB kA kB tA tB;refine Aa BR fun C hC => ?_;refine Aj ?_;exact Am
 rw [if_neg h9076];by_cases h44:f=44
 ·subst h44
  rw [if_pos rfl];have c1:=Alx A B false kA kB;generalize Ey A B false=R at *;clear oA oB kA kB tA tB;refine Aa BR fun C hC => ?_;refine Aj ?_;exact Am
 rw [if_neg h44];by_cases h9066:f=9066
 ·subst h9066
  rw [if_pos rfl];have c1:=Alx A B true kA kB;generalize Ey A B true=R at *;clear oA oB kA kB tA tB;refine Aa BR fun C hC => ?_;refine Aj ?_;exact Am
 rw [if_neg h9066];by_cases h9021:f=9021
 ·subst h9021
  rw [if_pos rfl];have c1:=AbP A B false oA kA kB;generalize IG A B false=R at *;clear oA oB kA kB tA tB;refine Aa BR fun C hC => ?_;refine Aj ?_;exact Am
 rw [if_neg h9021];by_cases h8854:f=8854
 ·subst h8854
  rw [if_pos rfl];have c1:=AbP A B true oA kA kB;generalize IG A B true=R at *;clear oA oB kA kB tA tB;refine Aa BR fun C hC => ?_;refine Aj ?_;exact Am
 rw [if_neg h8854];by_cases h9033:f=9033
 ·subst h9033
  rw [if_pos rfl];have c1:=Agb A B oA kA kB;generalize LB A B=R at *;clear oA oB kA kB tA tB;refine Aa BR fun C hC => ?_;refine Aj ?_;exact Am
 rw [if_neg h9033];by_cases h8593:f=8593
 ·subst h8593
  rw [if_pos rfl];have c1:=Amu A B oA kA kB;generalize MY Ry Qd A B=R at *;clear oA oB kA kB tA tB;refine Aa BR fun C hC => ?_;refine Aj ?_;exact Am
 rw [if_neg h8593];by_cases h8595:f=8595
 ·subst h8595
  rw [if_pos rfl];have c1:=Amv A B oA kA kB;generalize MY SX Qe A B=R at *;clear oA oB kA kB tA tB;refine Aa BR fun C hC => ?_;refine Aj ?_;exact Am
 rw [if_neg h8595];by_cases h8835:f=8835
 ·subst h8835
  rw [if_pos rfl];have c1:=Anr A B oA kA tB;generalize inP A B=R at *;clear oA oB kA kB tA tB;refine Aa BR fun C hC => ?_;refine Aj ?_;exact Am
 rw [if_neg h8835];by_cases h8866:f=8866
 ·subst h8866
  rw [if_pos rfl];clear oA oB kA kB tA tB;refine Aa BR fun C hC => ?_;refine Aj ?_;exact Am
 rw [if_neg h8866];by_cases h8867:f=8867
 ·subst h8867
  rw [if_pos rfl];clear oA oB kA kB tA tB;refine Aa BR fun C hC => ?_;refine Aj ?_;exact Am
 rw [if_neg h8867];have c1:=AmL f A B tA tB;generalize Kh f d A B=R at *;clear oA oB kA kB tA tB;refine Aa BR fun C hC => ?_;refine Aj ?_;exact Am
end Go.Proofs.YtjcolpcfcdkckaaGreat
