/- Whole numbers of the program: powers. -/
import Derived.Test.YtjcolpcfcdkckaaGreatK24
import Derived.Test.YtjcolpcfcdkckaaGreatK29
set_option maxRecDepth 10000
set_option maxHeartbeats 16000000
namespace Go.Proofs.YtjcolpcfcdkckaaGreat
set_option linter.unusedVariables false
open Go.RowKit
theorem Agl {k:Nat} {out f:Int} (hk:0<k) (hf:¬ 32<(limbs f.natAbs).length) :
 FN k k out f=if 32<(limbs (if k % 2=1 then out * f else out).natAbs).length then (0,7) else FN (k / 2) (k / 2) (if k % 2=1 then out * f else out) (if 0<k / 2 then f * f else f):=by
 cases k with
 | zero=>omega
 | succ k =>
   rw [FN];dsimp only;rw [if_neg (by omega),if_neg hf,Xx k ((k+1) / 2) ((k+1) / 2) _ _ (by omega) (Nat.le_refl _)]
theorem AiB {k:Nat} {out f:Int} (hk:0<k) (hf:32<(limbs f.natAbs).length):FN k k out f=(0,7):=by
 cases k with
 | zero=>omega
 | succ k=>rw [FN,if_neg (by omega),if_pos hf]
theorem Tj:zV 0=Cs false []:=by rw [zV,show (0:Int).natAbs=0 from rfl,AC]; rfl
theorem Fp (x y:Int) (lx:(limbs x.natAbs).length≤100000) (ly:(limbs y.natAbs).length≤100000):Ae Tryz.prog 182 [.agg (zV x),.agg (zV y)] (.agg (zV (x * y))):=by
 have:=Amc (decide (x<0)) (decide (y<0)) x.natAbs y.natAbs lx ly
 rwa [DS,DS] at this
theorem Aml (x y:Int) (lx:(limbs x.natAbs).length≤100000) (ly:(limbs y.natAbs).length≤100000):Ae Tryz.prog 232 [.agg (zV x),.agg (zV y)] (.agg (zV (x+y))):=by
 have:=Adm (decide (x<0)) (decide (y<0)) x.natAbs y.natAbs lx ly
 rwa [DS,DS] at this
theorem AiC (x y:Int):Ae Tryz.prog 181 [.agg (zV x),.agg (zV y)] (.lit (.int .i64 (PV x y))):=by
 have:=Ame (decide (x<0)) (decide (y<0)) x.natAbs y.natAbs
 rwa [DS,DS] at this
theorem ZI (x:Int):Ae Tryz.prog 218 [.agg (zV x)] (.lit (.int .i64 x.sign)):=by
 have:=Zx (decide (x<0)) x.natAbs
 rwa [DS] at this
theorem AeP (x:Int) (lx:(limbs x.natAbs).length≤100000):Ae Tryz.prog 199 [.agg (zV x)] (.agg (zV x)):=by
 have:=YA (decide (x<0)) (limbs x.natAbs) (show (limbs x.natAbs).length≤1000000000 by omega)
 rw [FD,← Rv,DS] at this;exact this
theorem Anp (k:Nat) (hk:k<9223372036854775808):BQ .and .i64 (k:Int) 1=some (.int .i64 ((k % 2:Nat):Int)):=by
 show some (Value.int .i64 (IntKind.i64.wrap (BitVec.ofInt 64 (k:Int) &&& BitVec.ofInt 64 1).toNat))=_;have e1:BitVec.ofInt 64 (k:Int)=BitVec.ofNat 64 k:=BitVec.ofInt_natCast ..;have e2:BitVec.ofInt 64 1=BitVec.ofNat 64 1:=rfl;rw [e1,e2,BitVec.toNat_and,BitVec.toNat_ofNat,BitVec.toNat_ofNat,Nat.mod_eq_of_lt (by omega),Nat.mod_eq_of_lt (by omega),Nat.and_one_is_mod];rw [IntWalk.i64_in _ ⟨by omega,by omega⟩]
abbrev Ang (z:Int):OB:=⟨false,false,153,2,[zV z]⟩
theorem ZJ (a:Int) (n:Nat) (hn:n<9223372036854775808) (la:(limbs a.natAbs).length≤100000) :
 Ae Tryz.prog 233 [.agg (zV a),nA n] (.tup [.agg (zV (FN n n 1 a).1),nA (FN n n 1 a).2]):=by
 have c1:Ae Tryz.prog 174 [.lit (.int .i64 1)] (.agg (zV 1)):=Ro 1 (by omega) (by omega);have c2:=AeP a la;have l1:(limbs (1:Int).natAbs).length≤32:=by rw [Bf (by decide)]; simp [AC]
 refine Aa Ve fun C hC => ?_;refine Aj ?_
 refine Ai [0,2,4,5,6,7] [0,1] (fun x:Nat × Int × Int=>[(1,nA x.1)]) (fun x=>[(2,some (Ang x.2.1)),(3,some (Ang x.2.2))]) 4
  (fun x=>x.1≤n∧(limbs x.2.1.natAbs).length≤32∧FN x.1 x.1 x.2.1 x.2.2=FN n n 1 a) (fun x=>x.1) (n,1,a) ⟨Nat.le_refl _,l1,rfl⟩ ?_
 rintro ⟨k,out,f⟩ ⟨hk,lo,hR⟩;dsimp only [List.cons_append,List.nil_append] at hk lo hR ⊢;by_cases k0:k=0
 ·subst k0
  rw [← hR,show FN 0 0 out f=(out,0) from rfl];refine Aj ?_;exact Am
 have hgt:0<k:=Nat.pos_of_ne_zero k0;have lf:=Ac .u32 (limbs f.natAbs);by_cases hf:32<(limbs f.natAbs).length
 ·rw [← hR,AiB hgt hf,Tj]
  refine Aj ?_;exact Am
 rw [Agl hgt hf] at hR;have ha:=Anp k (by omega);have hsh:(2:Int) ^ (min (1:Int).toNat 64)=2:=rfl;by_cases h2:k % 2=1
 ·rw [h2] at ha
  rw [if_pos h2] at hR;have c3:=Fp out f (by omega) (by omega);have lq:=Ac .u32 (limbs (out * f).natAbs);by_cases hb:32<(limbs (out * f).natAbs).length
  ·rw [← hR,if_pos hb,Tj]
   refine Aj ?_;exact Am
  ·rw [if_neg hb] at hR
   by_cases hm:0<k / 2
   ·rw [if_pos hm] at hR
    have c4:=Fp f f (by omega) (by omega);refine Aj ?_;exact ⟨(k / 2,out * f,f * f),by dsimp only; omega,⟨by dsimp only; omega,by dsimp only; omega,hR⟩,BI hC.m []⟩
   ·rw [if_neg hm] at hR
    refine Aj ?_;exact ⟨(k / 2,out * f,f),by dsimp only; omega,⟨by dsimp only; omega,by dsimp only; omega,hR⟩,BI hC.m []⟩
 ·have h3:k % 2=0:=by omega
  rw [h3] at ha;have hm:0<k / 2:=by omega
  have lq:=Ac .u32 (limbs out.natAbs);rw [if_neg h2,if_neg (by omega),if_pos hm] at hR;have c4:=Fp f f (by omega) (by omega);refine Aj ?_;exact ⟨(k / 2,out,f * f),by dsimp only; omega,⟨by dsimp only; omega,by dsimp only; omega,hR⟩,BI hC.m []⟩
def stB (c:Int→Int→Int) (n:Nat):Nat→Nat→List Int→List Int
 | 0,_,D=>D
 | k+1,a,D=>if a+20≤n then stB c n k (a+20) (Ot c a D (a+20 - (a+1))) else Ot c a D (n - (a+1))
def stM (c:Int→Int→Int) (n s:Nat):Nat→Nat→List Int→List Int
 | 0,_,D=>D
 | k+1,a,D=>if a+2 * s≤n then stM c n s k (a+2 * s) (DV c (2 * s) D a (a+s) (a+2 * s)) else if a+s<n then DV c (n - a) D a (a+s) n else D
def stL (c:Int→Int→Int) (n:Nat):Nat→Nat→List Int→List Int
 | 0,_,D=>D
 | k+1,s,D=>if s<n then stL c n k (s * 2) (stM c n s (n+1) 0 D) else D
def AbY (c:Int→Int→Int) (D:List Int):List Int:=stL c D.length (D.length+1) 20 (stB c D.length (D.length+1) 0 D)
theorem Tk (c:Int→Int→Int) (n:Nat):∀ k a D,(stB c n k a D).length=D.length
 | 0,_,_=>rfl
 | k+1,a,D=>by
   rw [stB]; split
   ·rw [Tk c n k,Hz]
   ·exact Hz ..
theorem ZK (c:Int→Int→Int) (n:Nat):∀ k a D,D.length=n→a≤n→∀ z ∈ stB c n k a D,z ∈ D
 | 0,_,_,_,_,z,hz=>hz
 | k+1,a,D,hn,ha,z,hz=>by
   rw [stB] at hz; split at hz
   ·exact LC c a D _ (by omega) z (ZK c n k _ _ (by rw [Hz]; exact hn) (by omega) z hz)
   ·exact LC c a D _ (by omega) z hz
theorem Tl (c:Int→Int→Int) (n s:Nat):∀ k a D,(stM c n s k a D).length=D.length
 | 0,_,_=>rfl
 | k+1,a,D=>by
   rw [stM]; split
   ·rw [Tl c n s k,DG]
   ·split
    ·exact DG ..
    ·rfl
theorem ZL (c:Int→Int→Int) (n s:Nat) (hs:0<s):∀ k a D,D.length=n→∀ z ∈ stM c n s k a D,z ∈ D
 | 0,_,_,_,z,hz=>hz
 | k+1,a,D,hn,z,hz=>by
   rw [stM] at hz; split at hz
   ·exact Fo c _ D _ _ _ (by omega) (by omega) (by omega) z (ZL c n s hs k _ _ (by rw [DG]; exact hn) z hz)
   ·split at hz
    ·exact Fo c _ D _ _ _ (by omega) (by omega) (by omega) z hz
    ·exact hz
theorem AeQ (c:Int→Int→Int) (n:Nat):∀ k s D,(stL c n k s D).length=D.length
 | 0,_,_=>rfl
 | k+1,s,D=>by
   rw [stL]; split
   ·rw [AeQ c n k,Tl]
   ·rfl
theorem AeR (c:Int→Int→Int) (n:Nat):∀ k s D,0<s→D.length=n→∀ z ∈ stL c n k s D,z ∈ D
 | 0,_,_,_,_,z,hz=>hz
 | k+1,s,D,hs,hn,z,hz=>by
   rw [stL] at hz; split at hz
   ·exact ZL c n s hs _ _ _ hn z (AeR c n k _ _ (by omega) (by rw [Tl]; exact hn) z hz)
   ·exact hz
theorem AiD (c:Int→Int→Int) (D:List Int):(AbY c D).length=D.length:=by unfold AbY; rw [AeQ,Tk]
theorem AiE (c:Int→Int→Int) (D:List Int):∀ z ∈ AbY c D,z ∈ D:=fun z hz =>
 ZK c _ _ _ D rfl (Nat.zero_le _) z (AeR c _ _ _ _ (by omega) (Tk ..) z hz)
theorem AiF (f:FuncId) (e1 e2:List (List AV)) (c:Int→Int→Int) (P:Int→Prop) (hf:∀ x y,P x→P y→Ae Tryz.prog f [nA x,nA y,.ep 1 e1 0 0,.ep 3 e2 0 0] (nA (c x y)))
 (D:List Int) (n:Nat) (hn:D.length=n) (hl:n≤1000) (hD:∀ z ∈ D,P z) :
 Dn Tryz.prog 147 [.own 0,nA n,.fn f [] [.ep 1 e1 0 0,.ep 3 e2 0 0]] [(0,some ⟨true,false,3,1,Ab .i64 D⟩)] 1 (.tup []) [(0,some ⟨true,false,3,1,Ab .i64 (AbY c D)⟩)] 1:=by
 unfold AbY;rw [hn];have hB1:=Tk c n (n+1) 0 D;have hB2:=ZK c n (n+1) 0 D hn (Nat.zero_le _);generalize hT:stB c n (n+1) 0 D=T at hB1 hB2 ⊢;refine BK F3 fun C hC => ?_;refine Aj ?_
 refine Ai [0,1,2,6] [] (fun p:(Nat × Nat) × List Int=>[(7,nA p.1.2),(8,nA ((p.1.2:Int)+20))]) (fun p=>[(0,some ⟨true,false,3,1,Ab .i64 p.2⟩)]) 1
  (fun p=>n+1≤p.1.2+p.1.1∧p.1.2≤n∧p.2.length=n∧(∀ z ∈ p.2,P z)∧T=stB c n p.1.1 p.1.2 p.2) (fun p=>p.1.1) ((n+1,0),D)
  ⟨by show n+1≤0+(n+1); omega,Nat.zero_le _,hn,hD,hT.symm⟩ ?_ (ht:=by simp only [Int.natCast_zero,Int.zero_add]; rfl)
 rintro ⟨⟨k,a⟩,G⟩ ⟨g1,g2,g3,g4,hE⟩;dsimp only [List.cons_append,List.nil_append] at g1 g2 g3 g4 hE ⊢;obtain ⟨k,rfl⟩:∃ x,k=x+1:=⟨k - 1,by omega⟩;rw [stB] at hE;clear hT;by_cases h1:a+20≤n
 ·rw [if_pos h1] at hE
  have c1:=AbS f e1 e2 c P hf G a (a+20) (by omega) g4 (by omega) (by omega);have hl2:=Hz c a G (a+20 - (a+1));have hm2:=LC c a G (a+20 - (a+1)) (by omega);generalize Ot c a G (a+20 - (a+1))=G2 at *;rw [show ((a+20:Nat):Int)=(a:Int)+20 from by omega] at c1;refine Aj ?_;refine Bn [(0,0)] c1 ?_;refine A5 ?_;refine Ak ⟨rfl,?_⟩;refine Aj ?_;exact ⟨((k,a+20),G2),by show k<k+1; omega,⟨by show n+1≤a+20+k; omega,h1,by show G2.length=n; omega,fun z hz=>g4 z (hm2 z hz),hE⟩,BI hC.m [] (by rw [show ((a+20:Nat):Int)=(a:Int)+20 from by omega]; rfl)⟩
 ·rw [if_neg h1] at hE
  have c1:=AbS f e1 e2 c P hf G a n (by omega) g4 (by omega) (by omega);rw [← hE] at c1;clear hE;refine Aj ?_;refine Bn [(0,0)] c1 ?_;refine A5 ?_;refine Ak ⟨rfl,?_⟩;refine Aj ?_;clear c1 g3 g4;have hTD:∀ z ∈ T,P z:=fun z hz=>hD z (hB2 z hz);generalize hU:stL c n (n+1) 20 T=U
  refine Ai [0,1,2] [] (fun p:(Nat × Nat) × List Int=>[(6,nA p.1.2)]) (fun p=>[(0,some ⟨true,false,3,1,Ab .i64 p.2⟩)]) 1
   (fun p=>n+1≤p.1.2+p.1.1∧20≤p.1.2∧p.1.2≤2000∧p.2.length=n∧(∀ z ∈ p.2,P z)∧U=stL c n p.1.1 p.1.2 p.2) (fun p=>p.1.1) ((n+1,20),T)
   ⟨by show n+1≤20+(n+1); omega,by show 20≤20; omega,by show 20≤2000; omega,by show T.length=n; omega,hTD,hU.symm⟩ ?_
  rintro ⟨⟨k,s⟩,G⟩ ⟨g1,g2,g3,g4,g5,hE⟩;dsimp only [List.cons_append,List.nil_append] at g1 g2 g3 g4 g5 hE ⊢;clear hU;by_cases h2:s<n
  ·obtain ⟨k,rfl⟩:∃ x,k=x+1:=⟨k - 1,by omega⟩
   rw [stL,if_pos h2] at hE;have hM1:=Tl c n s (n+1) 0 G;have hM2:=ZL c n s (by omega) (n+1) 0 G g4;generalize hV:stM c n s (n+1) 0 G=V at hM1 hM2 hE;refine Aj ?_
   refine Ai [0,1,2,6] [] (fun p:(Nat × Nat) × List Int=>[(7,nA p.1.2),(8,nA ((p.1.2:Int)+2 * s))]) (fun p=>[(0,some ⟨true,false,3,1,Ab .i64 p.2⟩)]) 1
    (fun p=>n+1≤p.1.2+p.1.1∧p.1.2≤n∧p.2.length=n∧(∀ z ∈ p.2,P z)∧V=stM c n s p.1.1 p.1.2 p.2) (fun p=>p.1.1) ((n+1,0),G)
    ⟨by show n+1≤0+(n+1); omega,Nat.zero_le _,g4,g5,hV.symm⟩ ?_ (ht:=by simp only [Int.natCast_zero,Int.zero_add]; rfl)
   rintro ⟨⟨q,a⟩,H⟩ ⟨j1,j2,j3,j4,hF⟩;dsimp only [List.cons_append,List.nil_append] at j1 j2 j3 j4 hF ⊢;clear hV;obtain ⟨q,rfl⟩:∃ x,q=x+1:=⟨q - 1,by omega⟩;rw [stM] at hF;by_cases h3:a+2 * s≤n
   ·rw [if_pos h3] at hF
    have c2:=Adv f e1 e2 c P hf (2 * s) H a (a+s) (a+2 * s) (by omega) (by omega) j4 (by omega) (by omega) (by omega);have hl2:=DG c (2 * s) H a (a+s) (a+2 * s);have hm2:=Fo c (2 * s) H a (a+s) (a+2 * s) (by omega) (by omega) (by omega);generalize DV c (2 * s) H a (a+s) (a+2 * s)=H2 at *;rw [show ((a+2 * s:Nat):Int)=(a:Int)+2 * s from by omega,show ((a+s:Nat):Int)=(a:Int)+s from by omega] at c2;refine Aj ?_;refine Bn [(0,0)] c2 ?_;refine A5 ?_;refine Ak ⟨rfl,?_⟩;refine Aj ?_;exact ⟨((q,a+2 * s),H2),by show q<q+1; omega,⟨by show n+1≤a+2 * s+q; omega,h3,by show H2.length=n; omega,fun z hz=>j4 z (hm2 z hz),hF⟩,BI hC.m [] (by rw [show ((a+2 * s:Nat):Int)=(a:Int)+2 * s from by omega]; rfl)⟩
   ·rw [if_neg h3] at hF
    by_cases h4:a+s<n
    ·rw [if_pos h4] at hF
     have c2:=Adv f e1 e2 c P hf (n - a) H a (a+s) n (by omega) (by omega) j4 (by omega) (by omega) (by omega);rw [← hF,show ((a+s:Nat):Int)=(a:Int)+s from by omega] at c2;clear hF;refine Aj ?_;refine Bn [(0,0)] c2 ?_;refine A5 ?_;refine Ak ⟨rfl,?_⟩;refine Aj ?_;exact ⟨((k,s * 2),V),by show k<k+1; omega,⟨by show n+1≤s * 2+k; omega,by show 20≤s * 2; omega,by show s * 2≤2000; omega,by show V.length=n; omega,fun z hz=>g5 z (hM2 z hz),hE⟩,BI hC.m [] (by rw [show ((s * 2:Nat):Int)=(s:Int) * 2 from by omega]; rfl)⟩
    ·rw [if_neg h4] at hF
     subst hF;refine Aj ?_;exact ⟨((k,s * 2),V),by show k<k+1; omega,⟨by show n+1≤s * 2+k; omega,by show 20≤s * 2; omega,by show s * 2≤2000; omega,by show V.length=n; omega,fun z hz=>g5 z (hM2 z hz),hE⟩,BI hC.m [] (by rw [show ((s * 2:Nat):Int)=(s:Int) * 2 from by omega]; rfl)⟩
  ·have hUG:U=G:=by
    rw [hE];cases k with
    | zero=>rfl
    | succ k=>rw [stL,if_neg h2]
   subst hUG;refine Aj ?_;exact BZ []
theorem AkQ (f:FuncId) (e1 e2:List (List AV)) (c:Int→Int→Int) (P:Int→Prop) (hf:∀ x y,P x→P y→Ae Tryz.prog f [nA x,nA y,.ep 1 e1 0 0,.ep 3 e2 0 0] (nA (c x y)))
 (D:List Int) (hl:D.length≤1000) (hD:∀ z ∈ D,P z) :
 Dn Tryz.prog 98 [.own 0,.fn f [] [.ep 1 e1 0 0,.ep 3 e2 0 0]] [(0,some ⟨true,false,3,1,Ab .i64 D⟩)] 1 (.tup []) [(0,some ⟨true,false,3,1,Ab .i64 (AbY c D)⟩)] 1:=by
 have c1:=AiF f e1 e2 c P hf D D.length rfl hl hD;have ls:=Ac .i64 D;generalize Ab .i64 D=R at *;refine BK FG fun C hC => ?_;refine Aj ?_;refine Bn [(0,0)] c1 ?_;refine A5 ?_;refine Ak ⟨rfl,?_⟩;refine Aj ?_;exact BZ []
end Go.Proofs.YtjcolpcfcdkckaaGreat
