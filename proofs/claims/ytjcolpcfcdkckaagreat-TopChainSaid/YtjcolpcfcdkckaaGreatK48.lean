/- Choosing along an axis: pick.Replicate. -/
import Derived.Test.YtjcolpcfcdkckaaGreatK35
import Derived.Test.YtjcolpcfcdkckaaGreatK37
import Derived.Test.YtjcolpcfcdkckaaGreatK40
set_option maxRecDepth 10000
set_option maxHeartbeats 8000000
namespace Go.Proofs.YtjcolpcfcdkckaaGreat
set_option linter.unusedVariables false
open Go.RowKit
theorem AjH {A:Al} (kA:CI A) (first:Bool):∃ lo:Nat,(EB A)[Fr A first]? = some (lo:Int)∧(EB A).getD (Fr A first) 0=lo∧lo≤2048∧Small (EB A)∧(EB A).length≤6∧AA (EB A)=A.cells.length∧Fr A first<(EB A).length:=by
 have hc:=kA.e;have h6:=CF hc
 have main:∀ (s:List Int) (x:Nat),Small s→s.length≤6→AA s=A.cells.length→x<s.length→∃ lo:Nat,s[x]? = some (lo:Int)∧s.getD x 0=lo∧lo≤2048∧Small s∧s.length≤6∧AA s=A.cells.length∧x<s.length:=by
  intro s x h1 h2 h3 h4;obtain ⟨z,hz⟩:∃ z,s[x]? = some z:=⟨_,List.getElem?_eq_getElem h4⟩;have hzr:=h1 z (List.mem_of_getElem? hz);refine ⟨z.toNat,by rw [hz]; congr 1; omega,?_,by omega,h1,h2,h3,h4⟩;rw [List.getD_eq_getElem?_getD,hz]; show z=_; omega
 unfold EB Fr;by_cases h:A.shape.length=0
 ·rw [if_pos h,if_pos h]
  have hs:=List.eq_nil_of_length_eq_zero h;have hl:A.cells.length=1:=by have:=kA.c; rw [hs,JZ] at this; dsimp only at this; omega
  exact main [1] 0 (by intro z hz; simp at hz; subst hz; exact ⟨by omega,by omega⟩) (by simp) (by rw [hl]; rfl) (by simp)
 ·rw [if_neg h,if_neg h]
  refine main A.shape _ (BG hc) h6 kA.prod ?_;split<;>omega
theorem AgI {N:Al} (kN:CI N) (h:N.shape.length=0) (h2:(AB N).2=0):(AB N).1.length=1:=by
 have hs:=List.eq_nil_of_length_eq_zero h;have hl:N.cells.length=1:=by have:=kN.c; rw [hs,JZ] at this; dsimp only at this; omega
 unfold AB at h2 ⊢;rw [if_neg (by omega)] at h2 ⊢;split at h2
 ·rename_i l hl2
  have:=GZ hl2; dsimp only; omega
 ·cases h2
theorem Tr {i:Nat} {lo:Nat} {F:List Int} {k:Nat} {v:Int} (hF:∀ z ∈ F,0≤z∧z<lo) (hv:0≤v∧v<lo):∀ z ∈ F++List.replicate k v,0≤z∧z<lo:=fun z hz=>by
 rcases List.mem_append.1 hz with h|h
 ·exact hF z h
 ·rw [(List.mem_replicate.1 h).2]; exact hv
theorem AjI (N A:Al) (first:Bool) (hN:arrOK N) (kN:CI N) (kA:CI A):Ae Tryz.prog 78 [.agg (Ao N),.agg (Ao A),.lit (.bool first)] (.tup [.agg (Ao (Qg N A first).1),nA (Qg N A first).2]):=by
 have hB:A2=1000000000:=rfl;have c0:=Ef N hN kN.ok;have ll:=Ac .i64 (AB N).1;have hle:=G4 kN.cells;have hrng:=XP N;have hone:N.shape.length=0→(AB N).2=0→(AB N).1.length=1:=fun h h2=>AgI kN h h2;have lN:=Ac .i64 N.shape;have c1:=Hs 134 (fun k=>decide (k<0)) Amw (AB N).1 (by omega);have c2:=AeW A first kA.len
 obtain ⟨lo,hx,hxg,hlo,hsm,h6,hpr,hxl⟩:=AjH kA first
 have hAs:=kA.ok.parts.1;have hAl:=kA.cells;have rowsC:=fun F h1 h2=>Ai6 N A (EB A) (Fr A first) lo F kN.ok hAs hAl hsm h6 hpr hx h1 h2;have ls:=Ac .i64 (EB A);have hxk:=Az (k:=.i64) hx;have hx6:Fr A first<6:=by omega
 unfold Qg Ai7;rw [hxg];generalize EB A=s at *;generalize Fr A first=x at *
 by_cases h0:(AB N).2=0
 ·rw [h0] at c0
  rw [if_neg (fun h=>h h0)];have hone:=fun h=>hone h h0;clear h0;generalize (AB N).1=l at *;cases hng:l.any fun k=>decide (k<0)
  ·rw [hng] at c1
   rw [if_neg (by simp)]
   have hpos:∀ k ∈ l,0≤k:=fun k hk=>by
    have:=List.any_eq_false.1 hng k hk
    simp at this; exact this
   clear hng;by_cases ho:N.shape.length=0
   ·obtain ⟨z,rfl⟩:∃ z,l=[z]:=List.length_eq_one_iff.1 (hone ho)
    rw [if_neg (by rintro ⟨h,_⟩; exact h ho),if_pos ho];have hz0:=hpos z (by simp);have hzr:=hrng z (by simp);have c3:=AbF z lo (by omega);have he:List.replicate lo [AV.lit (.int .i64 z)]=Ab .i64 (List.replicate lo z):=by simp [Ab]
    rw [he] at c3;rw [show ([z]:List Int).headD 0=z from rfl,Int.toNat_natCast];have hpos2:∀ k ∈ List.replicate lo z,0≤k∧k≤9223372036854775807:=fun k hk=>by rw [(List.mem_replicate.1 hk).2]; omega
    have hln:lo=1∨(List.replicate lo z).length=lo:=.inr List.length_replicate;have ll2:=Ac .i64 (List.replicate lo z);have hll2:(List.replicate lo z).length≤2048:=by rw [List.length_replicate]; omega
    clear hpos hrng hone ll;have e1:(Ab .i64 [z])=[[AV.lit (.int .i64 z)]]:=rfl;rw [e1] at c0 c1;generalize List.replicate lo z=l at *;generalize hG:Ic (decide ((lo:Int)=1)) 0 l []=G;refine AE Cb B9 fun C hC => ?_;refine Aj ?_;intro ds;refine Aj ?_
    refine Ai [3,4,6,7,9,10,11,64,65] [0,1,2,3] (fun p:Nat × List Int=>[(13,.own 4),(66,nA p.1)]) (fun p=>[(4,some ⟨true,false,3,1,Ab .i64 p.2⟩)]) 5
     (fun p=>p.1≤l.length∧G=Ic (decide ((lo:Int)=1)) p.1 (l.drop p.1) p.2∧p.2.length≤2048∧∀ z ∈ p.2,0≤z∧z<lo) (fun p=>l.length - p.1) (0,[]) ⟨Nat.zero_le _,by rw [← hG]; rfl,Nat.zero_le _,by simp⟩ ?_
    rintro ⟨i,F⟩ ⟨hi,hE,hFl,hF⟩;dsimp only [List.cons_append,List.nil_append] at hi hE hFl hF ⊢;clear c0 c1 c2 hG;have lF:=Ac .i64 F;by_cases hlt:i<l.length
    ·obtain ⟨k,hk⟩:∃ k,l[i]? = some k:=⟨_,List.getElem?_eq_getElem hlt⟩
     have hkk:=Az (k:=.i64) hk;obtain ⟨k0,k1⟩:=hpos2 k (List.mem_of_getElem? hk);rw [VO _ hk] at hE;by_cases hbig:k > 2048 - (F.length:Int)
     ·rw [if_pos hbig] at hE
      subst hE;clear rowsC;refine Aj ?_;exact Am
     ·rw [if_neg hbig] at hE
      obtain ⟨kn,rfl⟩:=Int.eq_ofNat_of_zero_le k0;rw [Int.toNat_natCast] at hE;clear hpos2 rowsC;by_cases hone1:(lo:Int)=1
      ·skip
       have hv:(if decide ((lo:Int)=1)=true then 0 else (i:Int))=0:=if_pos (by simp; exact hone1);rw [hv] at hE;refine Aj ?_
       refine Ai [3,4,6,7,9,10,11,64,65,66,14,79] [0,1,2,3] (fun m:Nat=>[(13,.own 4),(80,nA m)]) (fun m=>[(4,some ⟨true,false,3,1,Ab .i64 (F++List.replicate m 0)⟩)]) 5
        (fun m=>m≤kn) (fun m=>kn - m) 0 (Nat.zero_le _) ?_ (hh:=by rw [List.replicate_zero,List.append_nil]; rfl)
       intro m hm;dsimp only [List.cons_append,List.nil_append] at hm ⊢;have lM:=Ac .i64 (F++List.replicate m 0);rw [List.length_append,List.length_replicate] at lM;by_cases hml:m<kn
       ·have hsn:Ab .i64 (F++List.replicate m 0)++[[.lit (.int .i64 0)]]=Ab .i64 (F++List.replicate (m+1) 0):=by
         rw [List.replicate_succ',← List.append_assoc]; simp [Ab]
        generalize Ab .i64 (F++List.replicate m 0)=S at hsn lM ⊢;have hb:(S.length+1) * 8≤140737488355328:=by omega
        refine Aj ?_;exact ⟨m+1,by omega,by omega,BI hC.m [(4,6)] (by rw [← hsn]; rfl)⟩
       ·obtain rfl:m=kn:=by omega
        refine Aj ?_;exact ⟨(i+1,F++List.replicate m 0),by show l.length - (i+1)<l.length - i; omega,⟨by show i+1≤_; omega,hE,by show (F++List.replicate m 0).length≤2048; rw [List.length_append,List.length_replicate]; omega,Tr (i:=i) (lo:=lo) hF ⟨by omega,by omega⟩⟩,BI hC.m []⟩
      ·skip
       have hne:¬ ((lo:Int)=1):=hone1;have hil:i<lo:=by rcases hln with h|h<;>omega
       have hv:(if decide ((lo:Int)=1)=true then 0 else (i:Int))=(i:Int):=if_neg (by simp; exact hne);rw [hv] at hE;refine Aj ?_
       refine Ai [3,4,6,7,9,10,11,64,65,66,14,79] [0,1,2,3] (fun m:Nat=>[(13,.own 4),(80,nA m)]) (fun m=>[(4,some ⟨true,false,3,1,Ab .i64 (F++List.replicate m (i:Int))⟩)]) 5
        (fun m=>m≤kn) (fun m=>kn - m) 0 (Nat.zero_le _) ?_ (hh:=by rw [List.replicate_zero,List.append_nil]; rfl)
       intro m hm;dsimp only [List.cons_append,List.nil_append] at hm ⊢;have lM:=Ac .i64 (F++List.replicate m (i:Int));rw [List.length_append,List.length_replicate] at lM;by_cases hml:m<kn
       ·have hsn:Ab .i64 (F++List.replicate m (i:Int))++[[.lit (.int .i64 i)]]=Ab .i64 (F++List.replicate (m+1) (i:Int)):=by
         rw [List.replicate_succ',← List.append_assoc]; simp [Ab]
        generalize Ab .i64 (F++List.replicate m (i:Int))=S at hsn lM ⊢;have hb:(S.length+1) * 8≤140737488355328:=by omega
        refine Aj ?_;exact ⟨m+1,by omega,by omega,BI hC.m [(4,6)] (by rw [← hsn]; rfl)⟩
       ·obtain rfl:m=kn:=by omega
        refine Aj ?_;exact ⟨(i+1,F++List.replicate m (i:Int)),by show l.length - (i+1)<l.length - i; omega,⟨by show i+1≤_; omega,hE,by show (F++List.replicate m (i:Int)).length≤2048; rw [List.length_append,List.length_replicate]; omega,Tr (i:=i) (lo:=lo) hF ⟨by omega,by omega⟩⟩,BI hC.m []⟩
    ·obtain rfl:i=l.length:=by omega
     rw [List.drop_eq_nil_of_le (Nat.le_refl _),Ic] at hE;subst hE;dsimp only;have c4:=rowsC F (by omega) (fun k hk=>(hF k hk).2);clear rowsC;refine A4 4 rfl ?_;refine Aj ?_;exact Am
   ·by_cases h1:lo=1
    ·subst h1
     rw [if_neg (by rintro ⟨_,h,_⟩; exact h rfl),if_neg ho];have hpos2:∀ k ∈ l,0≤k∧k≤9223372036854775807:=fun k hk=>⟨hpos k hk,(hrng k hk).2⟩;have hln:1=1∨l.length=1:=.inl rfl;have hll2:=hle;have ll2:=ll;clear hpos hrng hone;generalize hG:Ic (decide (((1:Nat):Int)=1)) 0 l []=G;refine AE Cb B9 fun C hC => ?_;refine Aj ?_;intro ds;refine Aj ?_
     refine Ai [3,4,6,7,9,10,11,64,65] [0,1,2,3] (fun p:Nat × List Int=>[(13,.own 4),(66,nA p.1)]) (fun p=>[(4,some ⟨true,false,3,1,Ab .i64 p.2⟩)]) 5
      (fun p=>p.1≤l.length∧G=Ic (decide (((1:Nat):Int)=1)) p.1 (l.drop p.1) p.2∧p.2.length≤2048∧∀ z ∈ p.2,0≤z∧z<((1:Nat):Int)) (fun p=>l.length - p.1) (0,[]) ⟨Nat.zero_le _,by rw [← hG]; rfl,Nat.zero_le _,by simp⟩ ?_
     rintro ⟨i,F⟩ ⟨hi,hE,hFl,hF⟩;dsimp only [List.cons_append,List.nil_append] at hi hE hFl hF ⊢;clear c0 c1 c2 hG;have lF:=Ac .i64 F;by_cases hlt:i<l.length
     ·obtain ⟨k,hk⟩:∃ k,l[i]? = some k:=⟨_,List.getElem?_eq_getElem hlt⟩
      have hkk:=Az (k:=.i64) hk;obtain ⟨k0,k1⟩:=hpos2 k (List.mem_of_getElem? hk);rw [VO _ hk] at hE;by_cases hbig:k > 2048 - (F.length:Int)
      ·rw [if_pos hbig] at hE
       subst hE;clear rowsC;refine Aj ?_;exact Am
      ·rw [if_neg hbig] at hE
       obtain ⟨kn,rfl⟩:=Int.eq_ofNat_of_zero_le k0;rw [Int.toNat_natCast] at hE;clear hpos2 rowsC;have hv:(if decide (((1:Nat):Int)=1)=true then 0 else (i:Int))=0:=by simp
       rw [hv] at hE;refine Aj ?_
       refine Ai [3,4,6,7,9,10,11,64,65,66,14,79] [0,1,2,3] (fun m:Nat=>[(13,.own 4),(80,nA m)]) (fun m=>[(4,some ⟨true,false,3,1,Ab .i64 (F++List.replicate m 0)⟩)]) 5
        (fun m=>m≤kn) (fun m=>kn - m) 0 (Nat.zero_le _) ?_ (hh:=by rw [List.replicate_zero,List.append_nil]; rfl)
       intro m hm;dsimp only [List.cons_append,List.nil_append] at hm ⊢;have lM:=Ac .i64 (F++List.replicate m 0);rw [List.length_append,List.length_replicate] at lM;by_cases hml:m<kn
       ·have hsn:Ab .i64 (F++List.replicate m 0)++[[.lit (.int .i64 0)]]=Ab .i64 (F++List.replicate (m+1) 0):=by
         rw [List.replicate_succ',← List.append_assoc]; simp [Ab]
        generalize Ab .i64 (F++List.replicate m 0)=S at hsn lM ⊢;have hb:(S.length+1) * 8≤140737488355328:=by omega
        refine Aj ?_;exact ⟨m+1,by omega,by omega,BI hC.m [(4,6)] (by rw [← hsn]; rfl)⟩
       ·obtain rfl:m=kn:=by omega
        refine Aj ?_;exact ⟨(i+1,F++List.replicate m 0),by show l.length - (i+1)<l.length - i; omega,⟨by show i+1≤_; omega,hE,by show (F++List.replicate m 0).length≤2048; rw [List.length_append,List.length_replicate]; omega,Tr (i:=i) (lo:=1) hF ⟨by omega,by omega⟩⟩,BI hC.m []⟩
     ·obtain rfl:i=l.length:=by omega
      rw [List.drop_eq_nil_of_le (Nat.le_refl _),Ic] at hE;subst hE;dsimp only;have c4:=rowsC F (by omega) (fun k hk=>(hF k hk).2);clear rowsC;refine A4 4 rfl ?_;refine Aj ?_;exact Am
    ·by_cases h2:l.length=lo
     ·rw [if_neg (by rintro ⟨_,_,h⟩; exact h (by omega)),if_neg ho]
      have hpos2:∀ k ∈ l,0≤k∧k≤9223372036854775807:=fun k hk=>⟨hpos k hk,(hrng k hk).2⟩;have hln:lo=1∨l.length=lo:=.inr h2;have hll2:=hle;have ll2:=ll;have h1':(lo:Int)≠1:=by omega
      clear hpos hrng hone;generalize hG:Ic (decide ((lo:Int)=1)) 0 l []=G;refine AE Cb B9 fun C hC => ?_;refine Aj ?_;intro ds;refine Aj ?_
      refine Ai [3,4,6,7,9,10,11,64,65] [0,1,2,3] (fun p:Nat × List Int=>[(13,.own 4),(66,nA p.1)]) (fun p=>[(4,some ⟨true,false,3,1,Ab .i64 p.2⟩)]) 5
       (fun p=>p.1≤l.length∧G=Ic (decide ((lo:Int)=1)) p.1 (l.drop p.1) p.2∧p.2.length≤2048∧∀ z ∈ p.2,0≤z∧z<lo) (fun p=>l.length - p.1) (0,[]) ⟨Nat.zero_le _,by rw [← hG]; rfl,Nat.zero_le _,by simp⟩ ?_
      rintro ⟨i,F⟩ ⟨hi,hE,hFl,hF⟩;dsimp only [List.cons_append,List.nil_append] at hi hE hFl hF ⊢;clear c0 c1 c2 hG;have lF:=Ac .i64 F;by_cases hlt:i<l.length
      ·obtain ⟨k,hk⟩:∃ k,l[i]? = some k:=⟨_,List.getElem?_eq_getElem hlt⟩
       have hkk:=Az (k:=.i64) hk;obtain ⟨k0,k1⟩:=hpos2 k (List.mem_of_getElem? hk);rw [VO _ hk] at hE;by_cases hbig:k > 2048 - (F.length:Int)
       ·rw [if_pos hbig] at hE
        subst hE;clear rowsC;refine Aj ?_;exact Am
       ·rw [if_neg hbig] at hE
        obtain ⟨kn,rfl⟩:=Int.eq_ofNat_of_zero_le k0;rw [Int.toNat_natCast] at hE;clear hpos2 rowsC;have hne:¬ ((lo:Int)=1):=h1';have hil:i<lo:=by rcases hln with h|h<;>omega
        have hv:(if decide ((lo:Int)=1)=true then 0 else (i:Int))=(i:Int):=if_neg (by simp; exact hne);rw [hv] at hE;refine Aj ?_
        refine Ai [3,4,6,7,9,10,11,64,65,66,14,79] [0,1,2,3] (fun m:Nat=>[(13,.own 4),(80,nA m)]) (fun m=>[(4,some ⟨true,false,3,1,Ab .i64 (F++List.replicate m (i:Int))⟩)]) 5
         (fun m=>m≤kn) (fun m=>kn - m) 0 (Nat.zero_le _) ?_ (hh:=by rw [List.replicate_zero,List.append_nil]; rfl)
        intro m hm;dsimp only [List.cons_append,List.nil_append] at hm ⊢;have lM:=Ac .i64 (F++List.replicate m (i:Int));rw [List.length_append,List.length_replicate] at lM;by_cases hml:m<kn
        ·have hsn:Ab .i64 (F++List.replicate m (i:Int))++[[.lit (.int .i64 i)]]=Ab .i64 (F++List.replicate (m+1) (i:Int)):=by
          rw [List.replicate_succ',← List.append_assoc]; simp [Ab]
         generalize Ab .i64 (F++List.replicate m (i:Int))=S at hsn lM ⊢;have hb:(S.length+1) * 8≤140737488355328:=by omega
         refine Aj ?_;exact ⟨m+1,by omega,by omega,BI hC.m [(4,6)] (by rw [← hsn]; rfl)⟩
        ·obtain rfl:m=kn:=by omega
         refine Aj ?_;exact ⟨(i+1,F++List.replicate m (i:Int)),by show l.length - (i+1)<l.length - i; omega,⟨by show i+1≤_; omega,hE,by show (F++List.replicate m (i:Int)).length≤2048; rw [List.length_append,List.length_replicate]; omega,Tr (i:=i) (lo:=lo) hF ⟨by omega,by omega⟩⟩,BI hC.m []⟩
      ·obtain rfl:i=l.length:=by omega
       rw [List.drop_eq_nil_of_le (Nat.le_refl _),Ic] at hE;subst hE;dsimp only;have c4:=rowsC F (by omega) (fun k hk=>(hF k hk).2);clear rowsC;refine A4 4 rfl ?_;refine Aj ?_;exact Am
     ·rw [if_pos ⟨ho,by omega,by omega⟩]
      clear rowsC;refine AE Cb B9 fun C hC => ?_;refine Aj ?_;intro ds;refine Aj ?_;exact Am
  ·rw [hng] at c1
   rw [if_pos rfl];clear rowsC;refine AE Cb B9 fun C hC => ?_;refine Aj ?_;intro ds;refine Aj ?_;exact Am
 ·rw [if_pos h0]
  clear rowsC c1;generalize (AB N).2=e at *;generalize (AB N).1=l at *;refine AE Cb B9 fun C hC => ?_;refine Aj ?_;intro ds;refine Aj ?_;exact Am
end Go.Proofs.YtjcolpcfcdkckaaGreat
