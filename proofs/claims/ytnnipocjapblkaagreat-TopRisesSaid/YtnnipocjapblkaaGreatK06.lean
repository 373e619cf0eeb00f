/- Right arrays, in the reference's words. -/
import Derived.Test.YtnnipocjapblkaaGreatK05
import Derived.Test.YtnnipocjapblkaaGreatK04
set_option maxHeartbeats 4000000
namespace Go.Proofs.YtnnipocjapblkaaGreat
set_option linter.unusedVariables false
open Go.RowKit
theorem chk_at {s:List Int} {k:Nat} {z:Int} (h:s[k]? = some z) (b n:Bool):chk (s.drop k) b n=if z<0 then none else chk (s.drop (k+1)) (b || decide (2048<z)) (n || z == 0):=by
 rw [dropA_cons h,chk]
theorem mulC_at {s:List Int} {k:Nat} {z:Int} (h:s[k]? = some z) (o:Int):mulC (s.drop k) o=if o * z > 2048 then none else mulC (s.drop (k+1)) (o * z):=by
 rw [dropA_cons h,mulC]
theorem rcount_a (s:List Int):ACalls Tryz.prog 118 [.sl 1 (intsA .i64 s)] (.tup [.lit (.int .i64 (rcnt s).1),.lit (.int .i64 (rcnt s).2)]):=by
 have ls:=intsA_len .i64 s
 refine acalls_of code_scrimref07_Count (by simp [fn_scrimref07_Count]) fun C hC => ?_
 by_cases h6:s.length > 6
 ·rw [show rcnt s=(0,7) from by rw [rcnt,if_pos h6]]
  refine walk2 ?_
  exact fin
 generalize hR:rcnt s=R
 rw [rcnt,if_neg h6] at hR
 refine walk2 ?_
 refine aw_loopB [0,2,3] [] (fun p:Nat × Bool × Bool=>[(4,.lit (.bool p.2.1)),(5,.lit (.bool p.2.2)),(6,.lit (.int .i64 p.1))]) (fun _=>[]) 0
  (fun p=>p.1≤s.length∧chk s false false=chk (s.drop p.1) p.2.1 p.2.2) (fun p=>s.length - p.1) (0,false,false) ⟨Nat.zero_le _,rfl⟩ ?_
 rintro ⟨k,b,n⟩ ⟨hk,hE⟩
 simp only at hk hE
 dsimp only [List.cons_append,List.nil_append]
 by_cases hlt:k<s.length
 ·obtain ⟨z,hz⟩:∃ z,s[k]? = some z:=⟨_,List.getElem?_eq_getElem hlt⟩
  have hzk:=int_at (k:=.i64) hz
  rw [chk_at hz] at hE
  by_cases h0:z<0
  ·rw [if_pos h0] at hE
   rw [hE,rfin] at hR
   subst hR
   refine walk2 ?_
   exact fin
  ·rw [if_neg h0] at hE
   cases hB:decide (2048<z)<;>cases hN:(z == 0)<;>cases b<;>cases n
   all_goals
    have hB':=hB
    have hN':=hN
    simp only [decide_eq_true_eq,decide_eq_false_iff_not,beq_iff_eq,beq_eq_false_iff_ne,ne_eq] at hB' hN'
    rw [hB,hN] at hE
    first
     | (exfalso; omega)
     | (refine walk2 ?_
        exact ⟨(k+1,_,_),by simp only; omega,⟨by simp only; omega,hE⟩,wkR hC.m []⟩)
 ·rw [List.drop_eq_nil_of_le (by omega),chk] at hE
  rw [hE] at hR
  cases b
  ·cases n
   ·rw [rfin] at hR
    have hsm:=small_of_chk hE
    refine walk2 ?_
    refine aw_loopB [0,2,3] [] (fun p:Nat × Int=>[(7,.lit (.int .i64 p.2)),(8,.lit (.int .i64 p.1))]) (fun _=>[]) 0
     (fun p=>p.1≤s.length∧0≤p.2∧p.2≤2048∧mulC s 1=mulC (s.drop p.1) p.2) (fun p=>s.length - p.1) (0,1) ⟨Nat.zero_le _,by simp only; omega,by simp only; omega,rfl⟩ ?_
    rintro ⟨i,o⟩ ⟨hi,o0,o1,hM⟩
    simp only at hi o0 o1 hM
    dsimp only [List.cons_append,List.nil_append]
    by_cases hli:i<s.length
    ·obtain ⟨z,hz⟩:∃ z,s[i]? = some z:=⟨_,List.getElem?_eq_getElem hli⟩
     have hzk:=int_at (k:=.i64) hz
     have hzr:=hsm z (List.mem_of_getElem? hz)
     rw [mulC_at hz] at hM
     have m0:0≤o * z:=Int.mul_nonneg o0 hzr.1
     have m1:o * z≤2048 * 2048:=Int.mul_le_mul o1 hzr.2 hzr.1 (by omega)
     have hm : -9223372036854775808≤o * z∧o * z≤9223372036854775807:=by omega
     by_cases hg:o * z > 2048
     ·rw [if_pos hg] at hM
      rw [hM,rfin2] at hR
      subst hR
      refine walk2 ?_
      exact fin
     ·rw [if_neg hg] at hM
      refine walk2 ?_
      exact ⟨(i+1,o * z),by simp only; omega,⟨by simp only; omega,m0,by simp only; omega,hM⟩,wkR hC.m []⟩
    ·rw [List.drop_eq_nil_of_le (by omega),mulC] at hM
     rw [hM,rfin2] at hR
     subst hR
     refine walk2 ?_
     exact fin
   ·rw [rfin] at hR
    subst hR
    refine walk2 ?_
    exact fin
  ·rw [show rfin (some (true,n)) (mulC s 1)=(0,7) from by rw [rfin]] at hR
   subst hR
   refine walk2 ?_
   exact fin
def zeroN (n:Num):Bool := !n.neg && (n.top.length == 0 && n.bot.length == 0)
def simpleA (A:Arr):Bool:=A.shape.length == 0 && (A.cells.length == 1 && (match A.cells with|c::_=>c.kind != 2|[]=>false))
def mayC (c:Int):Bool:=decide (0≤c) && (decide (c≤1114111) && (decide (c<55296) || decide (c > 57343)))
mutual
def rightA (d:Nat):Arr→Bool
 | .mk _ sh cs=>((rcnt sh).2 == 0) && (((rcnt sh).1 == (cs.length:Int)) && rightCs d cs)
def rightCs (d:Nat):List Cell→Bool
 | []=>true
 | c::cs=>rightC d c && rightCs d cs
def rightC (d:Nat):Cell→Bool
 | .mk _ k n c ins=>if k=0 then (c == 0) && ((ins.length == 0) && rightN n)
   else if k=1 then zeroN n && ((ins.length == 0) && mayC c)
   else (k == 2) && (zeroN n && ((c == 0) && ((ins.length == 1) && (decide (0<d) && rightB (d - 1) ins))))
def rightB (d:Nat):List Arr→Bool
 | []=>false
 | a::_ => !simpleA a && rightA d a
end
theorem rightA_eq (d:Nat) (A:Arr):rightA d A=(((rcnt A.shape).2 == 0) && (((rcnt A.shape).1 == (A.cells.length:Int)) && rightCs d A.cells)):=by cases A; unfold rightA; rfl
theorem rightC_eq (d:Nat) (c:Cell):rightC d c=if c.kind=0 then (c.c == 0) && ((c.ins.length == 0) && rightN c.n)
 else if c.kind=1 then zeroN c.n && ((c.ins.length == 0) && mayC c.c)
 else (c.kind == 2) && (zeroN c.n && ((c.c == 0) && ((c.ins.length == 1) && (decide (0<d) && rightB (d - 1) c.ins)))):=by cases c; unfold rightC; rfl
theorem rightCs_at {cs:List Cell} {k:Nat} {c:Cell} (h:cs[k]? = some c) (d:Nat):rightCs d (cs.drop k)=(rightC d c && rightCs d (cs.drop (k+1))):=by
 obtain ⟨hk,rfl⟩:=List.getElem?_eq_some_iff.1 h
 rw [List.drop_eq_getElem_cons hk,rightCs]
theorem rightCs_mem {d:Nat}:∀ {cs:List Cell},rightCs d cs=true↔∀ c ∈ cs,rightC d c=true
 | []=>by simp [rightCs]
 | c::cs=>by simp only [rightCs,Bool.and_eq_true,List.mem_cons,forall_eq_or_imp,rightCs_mem]
theorem zero_a (n:Num):ACalls Tryz.prog 168 [.agg (numV n)] (.lit (.bool (zeroN n))):=by
 have lt:=intsA_len .u32 n.top
 have lb:=intsA_len .u32 n.bot
 refine acalls_of code_scrimref08_zero (by simp [fn_scrimref08_zero]) fun C hC => ?_
 obtain ⟨g,t,b⟩:=n
 simp only [zeroN] at lt lb ⊢
 cases g
 ·by_cases h1:t.length=0
  ·by_cases h2:b.length=0
   ·rw [h1,h2]
    refine walk2 ?_
    exact fin
   ·rw [h1,nat_beq_ne h2]
    refine walk2 ?_
    exact fin
  ·rw [nat_beq_ne h1]
   refine walk2 ?_
   exact fin
 ·refine walk2 ?_
  exact fin
theorem may_a (c:Int):ACalls Tryz.prog 169 [.lit (.int .i64 c)] (.lit (.bool (mayC c))):=by
 refine acalls_of code_scrimref06_May (by simp [fn_scrimref06_May]) fun C hC => ?_
 unfold mayC
 by_cases h1:0≤c
 ·by_cases h2:c≤1114111
  ·by_cases h3:c<55296
   ·simp only [h1,h2,h3,decide_true,Bool.true_and,Bool.true_or]
    refine walk2 ?_
    exact fin
   ·by_cases h4:c > 57343
    ·simp only [h1,h2,h3,h4,decide_true,decide_false,Bool.true_and,Bool.false_or]
     refine walk2 ?_
     exact fin
    ·simp only [h1,h2,h3,h4,decide_true,decide_false,Bool.true_and,Bool.false_or]
     refine walk2 ?_
     exact fin
  ·simp only [h1,h2,decide_true,decide_false,Bool.true_and,Bool.false_and]
   refine walk2 ?_
   exact fin
 ·simp only [h1,decide_false,Bool.false_and]
  refine walk2 ?_
  exact fin
theorem simple_a (A:Arr):ACalls Tryz.prog 170 [.agg (arrV A)] (.lit (.bool (simpleA A))):=by
 have lsh:=intsA_len .i64 A.shape
 have lcs:=cells_len A
 refine acalls_of code_scrimref08_Simple (by simp [fn_scrimref08_Simple]) fun C hC => ?_
 unfold simpleA
 by_cases h1:A.shape.length=0
 ·rw [h1,beq_self_eq_true,Bool.true_and]
  by_cases h2:A.cells.length=1
  ·rw [h2,beq_self_eq_true,Bool.true_and]
   obtain ⟨c,hc⟩:∃ c,A.cells[0]? = some c:=⟨_,List.getElem?_eq_getElem (by omega)⟩
   have hck:=cell_at hc
   have e:(match A.cells with|c::_=>c.kind != 2|[]=>false)=(c.kind != 2):=by
    match hA:A.cells,hc with
    | c'::r,hc=>simp at hc; subst hc; rfl
   rw [e]
   by_cases h3:c.kind=2
   ·rw [h3]
    refine walk2 ?_
    exact fin
   ·rw [show (c.kind != 2)=true from by simpa using h3]
    refine walk2 ?_
    exact fin
  ·rw [nat_beq_ne h2]
   refine walk2 ?_
   exact fin
 ·rw [nat_beq_ne h1]
  refine walk2 ?_
  exact fin
mutual
theorem right_a:∀ (d:Nat) (A:Arr) (q:Int),q=d→d≤100→arrOK A→ACalls Tryz.prog 52 [.agg (arrV A),.lit (.int .i64 q)] (.lit (.bool (rightA d A)))
 | d,A,q,hq,hd,hA=>by
   have hr:reachBytes=140737488351232:=rfl
   have lcs:=cells_len A
   obtain ⟨a1,a2,a3,a4⟩:=hA.parts
   have c1:=rcount_a A.shape
   refine acalls_of code_scrimref08_Right (by simp [fn_scrimref08_Right]) fun C hC => ?_
   rw [rightA_eq]
   generalize rcnt A.shape=R at c1 ⊢
   obtain ⟨n,e⟩:=R
   simp only at c1 ⊢
   by_cases h1:e=0
   ·subst h1
    rw [beq_self_eq_true,Bool.true_and]
    by_cases h2:n=A.cells.length
    ·subst h2
     rw [beq_self_eq_true,Bool.true_and]
     refine walk2 ?_
     refine aw_loopB [1,2,4,5] [0] (fun k:Nat=>[(7,.lit (.int .i64 k))]) (fun _=>[]) 1 (fun k=>k≤A.cells.length∧rightCs d A.cells=rightCs d (A.cells.drop k)) (fun k=>A.cells.length - k) 0 ⟨Nat.zero_le _,rfl⟩ ?_
     rintro k ⟨hk,hE⟩
     dsimp only [List.cons_append,List.nil_append]
     by_cases hlt:k<A.cells.length
     ·obtain ⟨c,hc⟩:∃ c,A.cells[k]? = some c:=⟨_,List.getElem?_eq_getElem hlt⟩
      have hck:=cell_at hc
      have hcm:=List.mem_of_getElem? hc
      have hcok:=cellsOK_mem.1 a4 c hcm
      rw [rightCs_at hc] at hE
      have ht:SizeOf.sizeOf c<SizeOf.sizeOf A:=Nat.lt_trans (cell_size hcm) A.size
      have c2:=rightCell_a d c q hq hd hcok
      cases h4:rightC d c
      ·rw [h4] at c2
       rw [h4,Bool.false_and] at hE
       rw [hE]
       refine walk2 ?_
       exact fin
      ·rw [h4] at c2
       rw [h4,Bool.true_and] at hE
       refine walk2 ?_
       exact ⟨k+1,by omega,⟨by omega,hE⟩,wkR hC.m []⟩
     ·rw [List.drop_eq_nil_of_le (by omega),rightCs] at hE
      rw [hE]
      refine walk2 ?_
      exact fin
    ·rw [int_beq_ne h2,Bool.false_and]
     refine walk2 ?_
     exact fin
   ·rw [int_beq_ne h1,Bool.false_and]
    refine walk2 ?_
    exact fin
 termination_by _ A=>SizeOf.sizeOf A
theorem rightCell_a:∀ (d:Nat) (A:Cell) (q:Int),q=d→d≤100→cellOK A→ACalls Tryz.prog 119 [.agg (cellV A),.lit (.int .i64 q)] (.lit (.bool (rightC d A)))
 | d,A,q,hq,hd,hA=>by
   have hr:reachBytes=140737488351232:=rfl
   have lin:=ins_len A
   obtain ⟨a1,a2,a3,a4⟩:=hA.parts
   have c1:=rRight_a A.n a2
   have c2:=zero_a A.n
   have c3:=may_a A.c
   refine acalls_of code_scrimref08_Cell (by simp [fn_scrimref08_Cell]) fun C hC => ?_
   rw [rightC_eq]
   by_cases k0:A.kind=0
   ·rw [if_pos k0]
    by_cases h1:A.c=0
    ·rw [h1] at c3 ⊢
     rw [beq_self_eq_true,Bool.true_and]
     by_cases h2:A.ins.length=0
     ·rw [h2,beq_self_eq_true,Bool.true_and]
      refine walk2 ?_
      exact fin
     ·rw [nat_beq_ne h2,Bool.false_and]
      refine walk2 ?_
      exact fin
    ·rw [int_beq_ne h1,Bool.false_and]
     refine walk2 ?_
     exact fin
   ·rw [if_neg k0]
    by_cases k1:A.kind=1
    ·rw [if_pos k1]
     cases h1:zeroN A.n
     ·rw [h1] at c2
      rw [Bool.false_and]
      refine walk2 ?_
      exact fin
     ·rw [h1] at c2
      rw [Bool.true_and]
      by_cases h2:A.ins.length=0
      ·rw [h2,beq_self_eq_true,Bool.true_and]
       refine walk2 ?_
       exact fin
      ·rw [nat_beq_ne h2,Bool.false_and]
       refine walk2 ?_
       exact fin
    ·rw [if_neg k1]
     by_cases k2:A.kind=2
     ·rw [show (A.kind == 2)=true from by simpa using k2,Bool.true_and]
      cases h1:zeroN A.n
      ·rw [h1] at c2
       rw [Bool.false_and]
       refine walk2 ?_
       exact fin
      rw [h1] at c2
      rw [Bool.true_and]
      by_cases h3:A.c=0
      ·rw [h3,beq_self_eq_true,Bool.true_and]
       by_cases h2:A.ins.length=1
       ·rw [h2,beq_self_eq_true,Bool.true_and]
        by_cases h4:0<d
        ·rw [decide_eq_true h4,Bool.true_and]
         obtain ⟨x,hx⟩:∃ x,A.ins[0]? = some x:=⟨_,List.getElem?_eq_getElem (by omega)⟩
         have hxk:=arr_at hx
         have hxm:=List.mem_of_getElem? hx
         have hxok:=arrsOK_mem.1 a4 x hxm
         have e:rightB (d - 1) A.ins=(!simpleA x && rightA (d - 1) x):=by
          match hA:A.ins,hx with
          | y::r,hx=>simp at hx; subst hx; rw [rightB]
         rw [e]
         have ht:SizeOf.sizeOf x<SizeOf.sizeOf A:=Nat.lt_trans (arr_size hxm) A.size
         have c4:=simple_a x
         have c5:=right_a (d - 1) x (q - 1) (by omega) (by omega) hxok
         cases h5:simpleA x
         ·rw [h5] at c4
          rw [Bool.not_false,Bool.true_and]
          refine walk2 ?_
          exact fin
         ·rw [h5] at c4
          rw [Bool.not_true,Bool.false_and]
          refine walk2 ?_
          exact fin
        ·rw [decide_eq_false h4,Bool.false_and]
         refine walk2 ?_
         exact fin
       ·rw [nat_beq_ne h2,Bool.false_and]
        refine walk2 ?_
        exact fin
      ·rw [int_beq_ne h3,Bool.false_and]
       refine walk2 ?_
       exact fin
     ·rw [int_beq_ne k2,Bool.false_and]
      refine walk2 ?_
      exact fin
 termination_by _ A=>SizeOf.sizeOf A
end
def thinS:List Int→Int→Int
 | [],n=>n
 | z::zs,n=>if n≤100000 then thinS zs (if z > 0 then n * z else n) else n
mutual
def thinA:Arr→Bool
 | .mk _ sh cs=>decide (thinS sh 1≤100000) && thinCs cs
def thinCs:List Cell→Bool
 | []=>true
 | c::cs=>thinC c && thinCs cs
def thinC:Cell→Bool
 | .mk _ _ _ _ ins=>thinAs ins
def thinAs:List Arr→Bool
 | []=>true
 | a::xs=>thinA a && thinAs xs
end
theorem thinA_eq (A:Arr):thinA A=(decide (thinS A.shape 1≤100000) && thinCs A.cells):=by cases A; unfold thinA; rfl
theorem thinC_eq (c:Cell):thinC c=thinAs c.ins:=by cases c; unfold thinC; rfl
theorem thinCs_at {cs:List Cell} {k:Nat} {c:Cell} (h:cs[k]? = some c):thinCs (cs.drop k)=(thinC c && thinCs (cs.drop (k+1))):=by
 obtain ⟨hk,rfl⟩:=List.getElem?_eq_some_iff.1 h
 rw [List.drop_eq_getElem_cons hk,thinCs]
theorem thinAs_at {cs:List Arr} {k:Nat} {c:Arr} (h:cs[k]? = some c):thinAs (cs.drop k)=(thinA c && thinAs (cs.drop (k+1))):=by
 obtain ⟨hk,rfl⟩:=List.getElem?_eq_some_iff.1 h
 rw [List.drop_eq_getElem_cons hk,thinAs]
theorem thinS_at {s:List Int} {k:Nat} {z:Int} (h:s[k]? = some z) (n:Int) (hn:n≤100000):thinS (s.drop k) n=thinS (s.drop (k+1)) (if z > 0 then n * z else n):=by
 rw [dropA_cons h,thinS,if_pos hn]
theorem right_shape {d:Nat} {A:Arr} (h:rightA d A=true):(cnt A.shape).2=0∧(cnt A.shape).1=A.cells.length∧rightCs d A.cells=true:=by
 rw [rightA_eq,rcnt_eq] at h
 simp only [Bool.and_eq_true,beq_iff_eq] at h
 exact h
theorem right_in {d:Nat} {c:Cell} (h:rightC d c=true):∀ x ∈ c.ins,∃ e,e<d∧rightA e x=true:=by
 intro x hx
 rw [rightC_eq] at h
 have hl:c.ins.length≠0:=by cases hi:c.ins<;>simp_all
 split at h
 ·simp only [Bool.and_eq_true,beq_iff_eq] at h; exact absurd h.2.1 hl
 ·split at h
  ·simp only [Bool.and_eq_true,beq_iff_eq] at h; exact absurd h.2.1 hl
  ·simp only [Bool.and_eq_true,beq_iff_eq,decide_eq_true_eq] at h
   obtain ⟨_,_,_,h1,h2,h3⟩:=h
   match hi:c.ins,h1,h3,hx with
   | [y],_,h3,hx =>
     simp only [List.mem_singleton] at hx
     subst hx
     rw [rightB] at h3
     simp only [Bool.and_eq_true] at h3
     exact ⟨d - 1,by omega,h3.2⟩
theorem thin_a:∀ (A:Arr) (d:Nat),rightA d A=true→arrOK A→ACalls Tryz.prog 53 [.agg (arrV A)] (.lit (.bool (thinA A)))
 | A,d,hR,hA=>by
   have hr:reachBytes=140737488351232:=rfl
   have lcs:=cells_len A
   have lsh:=intsA_len .i64 A.shape
   obtain ⟨a1,a2,a3,a4⟩:=hA.parts
   obtain ⟨r1,r2,r3⟩:=right_shape hR
   have hsm:=cnt_small r1
   have r3':=rightCs_mem.1 r3
   refine acalls_of code_scrimref08_thin (by simp [fn_scrimref08_thin]) fun C hC => ?_
   rw [thinA_eq]
   refine walk2 ?_
   refine aw_loopB [1,2] [0] (fun p:Nat × Int=>[(3,.lit (.int .i64 p.2)),(4,.lit (.int .i64 p.1))]) (fun _=>[]) 1 (fun p=>p.1≤A.shape.length∧0≤p.2∧p.2≤204800000∧thinS A.shape 1=thinS (A.shape.drop p.1) p.2) (fun p=>A.shape.length - p.1) (0,1)
    ⟨Nat.zero_le _,by simp only; omega,by simp only; omega,rfl⟩ ?_
   rintro ⟨i,n⟩ ⟨hi,n0,n1,hS⟩
   simp only at hi n0 n1 hS
   dsimp only [List.cons_append,List.nil_append]
   by_cases hgo:i<A.shape.length∧n≤100000
   ·obtain ⟨g1,g2⟩:=hgo
    obtain ⟨z,hz⟩:∃ z,A.shape[i]? = some z:=⟨_,List.getElem?_eq_getElem g1⟩
    have hzk:=int_at (k:=.i64) hz
    have hzr:=hsm z (List.mem_of_getElem? hz)
    rw [thinS_at hz n g2] at hS
    by_cases hp:z > 0
    ·rw [if_pos hp] at hS
     have m0:0≤n * z:=Int.mul_nonneg n0 hzr.1
     have m1:n * z≤100000 * 2048:=Int.mul_le_mul g2 hzr.2 hzr.1 (by omega)
     have hm : -9223372036854775808≤n * z∧n * z≤9223372036854775807:=by omega
     refine walk2 ?_
     exact ⟨(i+1,n * z),by simp only; omega,⟨by simp only; omega,m0,by simp only; omega,hS⟩,wkR hC.m []⟩
    ·rw [if_neg hp] at hS
     refine walk2 ?_
     exact ⟨(i+1,n),by simp only; omega,⟨by simp only; omega,n0,n1,hS⟩,wkR hC.m []⟩
   ·have hS':thinS A.shape 1=n:=by
     rw [hS]
     by_cases g1:i<A.shape.length
     ·have g2:¬ n≤100000:=fun h=>hgo ⟨g1,h⟩
      obtain ⟨z,hz⟩:∃ z,A.shape[i]? = some z:=⟨_,List.getElem?_eq_getElem g1⟩
      rw [dropA_cons hz,thinS,if_neg g2]
     ·rw [List.drop_eq_nil_of_le (by omega),thinS]
    rw [hS']
    have key:∀ {st:St} {Q:Exit→St→Prop} {c:ACode},(i<A.shape.length→¬ n≤100000):=fun {_ _ _} g1 h=>hgo ⟨g1,h⟩
    by_cases hbig:n≤100000
    ·have g1:¬ i<A.shape.length:=fun h=>hgo ⟨h,hbig⟩
     rw [decide_eq_true hbig,Bool.true_and]
     clear key hgo
     refine walk2 ?_
     refine aw_loopB [1,2] [0] (fun k:Nat=>[(5,.lit (.int .i64 k))]) (fun _=>[]) 1 (fun k=>k≤A.cells.length∧thinCs A.cells=thinCs (A.cells.drop k)) (fun k=>A.cells.length - k) 0 ⟨Nat.zero_le _,rfl⟩ ?_
     rintro k ⟨hk,hE⟩
     dsimp only [List.cons_append,List.nil_append]
     by_cases hlt:k<A.cells.length
     ·obtain ⟨c,hc⟩:∃ c,A.cells[k]? = some c:=⟨_,List.getElem?_eq_getElem hlt⟩
      have hck:=cell_at hc
      have hcm:=List.mem_of_getElem? hc
      have lin:=ins_len c
      rw [thinCs_at hc,thinC_eq] at hE
      refine walk2 ?_
      refine aw_loopB [1,2,5] [0] (fun j:Nat=>[(6,.lit (.int .i64 j))]) (fun _=>[]) 1 (fun j=>j≤c.ins.length∧thinCs A.cells=(thinAs (c.ins.drop j) && thinCs (A.cells.drop (k+1)))) (fun j=>c.ins.length - j) 0 ⟨Nat.zero_le _,hE⟩ ?_
      rintro j ⟨hj,hF⟩
      dsimp only [List.cons_append,List.nil_append]
      by_cases hlj:j<c.ins.length
      ·obtain ⟨x,hx⟩:∃ x,c.ins[j]? = some x:=⟨_,List.getElem?_eq_getElem hlj⟩
       have hxk:=arr_at hx
       have hxm:=List.mem_of_getElem? hx
       obtain ⟨_,_,_,cok⟩:=(cellsOK_mem.1 a4 c hcm).parts
       obtain ⟨e,_,hxr⟩:=right_in (r3' c hcm) x hxm
       have ht:SizeOf.sizeOf x<SizeOf.sizeOf A:=Nat.lt_trans (arr_size hxm) (Nat.lt_trans c.size (Nat.lt_trans (cell_size hcm) A.size))
       have c1:=thin_a x e hxr (arrsOK_mem.1 cok x hxm)
       rw [thinAs_at hx] at hF
       cases h4:thinA x
       ·rw [h4] at c1
        rw [h4,Bool.false_and,Bool.false_and] at hF
        rw [hF]
        refine walk2 ?_
        exact fin
       ·rw [h4] at c1
        rw [h4,Bool.true_and] at hF
        refine walk2 ?_
        exact ⟨j+1,by omega,⟨by omega,hF⟩,wkR hC.m []⟩
      ·rw [List.drop_eq_nil_of_le (by omega),thinAs,Bool.true_and] at hF
       refine walk2 ?_
       exact ⟨k+1,by omega,⟨by omega,hF⟩,wkR hC.m []⟩
     ·rw [List.drop_eq_nil_of_le (by omega),thinCs] at hE
      rw [hE]
      refine walk2 ?_
      exact fin
    ·rw [decide_eq_false hbig,Bool.false_and]
     clear key
     by_cases g1:i<A.shape.length
     ·refine walk2 ?_
      exact fin
     ·refine walk2 ?_
      exact fin
 termination_by A=>SizeOf.sizeOf A
def goodA (A:Arr):Bool:=fewP A && (rightA 8 A && thinA A)
theorem good_a (A:Arr) (hA:arrOK A):ACalls Tryz.prog 15 [.agg (arrV A)] (.lit (.bool (goodA A))):=by
 have c1:=few_a A hA
 have c2:=right_a 8 A 8 rfl (by omega) hA
 have c3:=thin_a A 8
 unfold goodA
 refine acalls_of code_scrimref08_Good (by simp [fn_scrimref08_Good]) fun C hC => ?_
 cases h1:fewP A
 ·rw [h1] at c1
  refine walk2 ?_
  exact fin
 rw [h1] at c1
 cases h2:rightA 8 A
 ·rw [h2] at c2
  refine walk2 ?_
  exact fin
 have c3:=c3 h2 hA
 rw [h2] at c2
 cases h3:thinA A
 ·rw [h3] at c3
  refine walk2 ?_
  exact fin
 ·rw [h3] at c3
  refine walk2 ?_
  exact fin
theorem good_few {A:Arr} (h:goodA A=true):fewP A=true:=by unfold goodA at h; simp only [Bool.and_eq_true] at h; exact h.1
theorem good_right {A:Arr} (h:goodA A=true):rightA 8 A=true:=by unfold goodA at h; simp only [Bool.and_eq_true] at h; exact h.2.1
theorem intsA_take (k:IntKind) (s:List Int) (n:Nat):(intsA k s).take n=intsA k (s.take n):=by simp [intsA,List.map_take]
theorem intsA_drop (k:IntKind) (s:List Int) (n:Nat):(intsA k s).drop n=intsA k (s.drop n):=by simp [intsA,List.map_drop]
theorem intsA_set (k:IntKind) (s:List Int) (i:Nat) (z:Int):(intsA k s).set i [.lit (.int k z)]=intsA k (s.set i z):=by simp [intsA,List.map_set]
theorem intsA_rep (k:IntKind) (n:Nat) (z:Int):List.replicate n [AV.lit (.int k z)]=intsA k (List.replicate n z):=by simp [intsA]
theorem idxFrom_at {p:Int→Bool} {s:List Int} {k:Nat} {z:Int} (h:s[k]? = some z):idxFrom p (s.drop k) k=if p z then (k:Int) else idxFrom p (s.drop (k+1)) (k+1):=by
 rw [dropA_cons h,idxFrom]
theorem indexFunc_a (f:FuncId) (p:Int→Bool) (hf:∀ z:Int,ACalls Tryz.prog f [.lit (.int .i64 z)] (.lit (.bool (p z)))) (s:List Int) (hl:s.length≤maxB):ACalls Tryz.prog 178 [.sl 1 (intsA .i64 s),.fn f [] []] (.lit (.int .i64 (idxFrom p s 0))):=by
 have hB:maxB=1000000000:=rfl
 have ls:=intsA_len .i64 s
 refine acalls_of code_slices_IndexFunc_int (by simp [fn_slices_IndexFunc_int]) fun C hC => ?_
 refine walk2 ?_
 refine aw_loopB [0,1,4,6,7] [] (fun k:Nat=>[(8,.lit (.int .i64 k))]) (fun _=>[]) 0 (fun k=>k≤s.length∧idxFrom p s 0=idxFrom p (s.drop k) k) (fun k=>s.length - k) 0 ⟨Nat.zero_le _,rfl⟩ ?_
 rintro k ⟨hk,hE⟩
 dsimp only [List.cons_append,List.nil_append]
 generalize idxFrom p s 0=G at hE ⊢
 by_cases hlt:k<s.length
 ·obtain ⟨z,hz⟩:∃ z,s[k]? = some z:=⟨_,List.getElem?_eq_getElem hlt⟩
  have hzk:=int_at (k:=.i64) hz
  have c1:=hf z
  rw [idxFrom_at hz] at hE
  cases hp:p z
  ·rw [hp] at c1 hE
   refine walk2 ?_
   exact ⟨k+1,by omega,⟨by omega,hE⟩,wkR hC.m []⟩
  ·rw [hp] at c1 hE
   simp only [if_true] at hE
   rw [hE]
   refine walk2 ?_
   exact fin
 ·rw [List.drop_eq_nil_of_le (by omega),idxFrom] at hE
  rw [hE]
  refine walk2 ?_
  exact fin
theorem index_a (x:Int) (s:List Int) (hl:s.length≤maxB):ACalls Tryz.prog 179 [.sl 1 (intsA .i64 s),.lit (.int .i64 x)] (.lit (.int .i64 (idxFrom (fun z=>x == z) s 0))):=by
 have hB:maxB=1000000000:=rfl
 have ls:=intsA_len .i64 s
 refine acalls_of code_slices_Index_int (by simp [fn_slices_Index_int]) fun C hC => ?_
 refine walk2 ?_
 refine aw_loopB [0,1,4,6,7] [] (fun k:Nat=>[(8,.lit (.int .i64 k))]) (fun _=>[]) 0 (fun k=>k≤s.length∧idxFrom (fun z=>x == z) s 0=idxFrom (fun z=>x == z) (s.drop k) k) (fun k=>s.length - k) 0 ⟨Nat.zero_le _,rfl⟩ ?_
 rintro k ⟨hk,hE⟩
 dsimp only [List.cons_append,List.nil_append]
 generalize idxFrom (fun z=>x == z) s 0=G at hE ⊢
 by_cases hlt:k<s.length
 ·obtain ⟨z,hz⟩:∃ z,s[k]? = some z:=⟨_,List.getElem?_eq_getElem hlt⟩
  have hzk:=int_at (k:=.i64) hz
  rw [idxFrom_at hz] at hE
  by_cases hp:x=z
  ·rw [if_pos (by simpa using hp)] at hE
   rw [hE]
   refine walk2 ?_
   exact fin
  ·rw [if_neg (by simpa using hp)] at hE
   refine walk2 ?_
   exact ⟨k+1,by omega,⟨by omega,hE⟩,wkR hC.m []⟩
 ·rw [List.drop_eq_nil_of_le (by omega),idxFrom] at hE
  rw [hE]
  refine walk2 ?_
  exact fin
theorem containsFunc_a (f:FuncId) (p:Int→Bool) (hf:∀ z:Int,ACalls Tryz.prog f [.lit (.int .i64 z)] (.lit (.bool (p z)))) (s:List Int) (hl:s.length≤maxB):ACalls Tryz.prog 125 [.sl 1 (intsA .i64 s),.fn f [] []] (.lit (.bool (s.any p))):=by
 have c1:=indexFunc_a f p hf s hl
 refine acalls_of code_slices_ContainsFunc_int (by simp [fn_slices_ContainsFunc_int]) fun C hC => ?_
 rw [← idxFrom_ge p s 0]
 by_cases h:idxFrom p s 0 ≥ 0
 ·rw [decide_eq_true h]
  refine walk2 ?_
  exact fin
 ·rw [decide_eq_false h]
  refine walk2 ?_
  exact fin
theorem contains_a (x:Int) (s:List Int) (hl:s.length≤maxB):ACalls Tryz.prog 128 [.sl 1 (intsA .i64 s),.lit (.int .i64 x)] (.lit (.bool (s.any fun z=>x == z))):=by
 have c1:=index_a x s hl
 refine acalls_of code_slices_Contains_int (by simp [fn_slices_Contains_int]) fun C hC => ?_
 rw [← idxFrom_ge _ s 0]
 by_cases h:idxFrom (fun z=>x == z) s 0 ≥ 0
 ·rw [decide_eq_true h]
  refine walk2 ?_
  exact fin
 ·rw [decide_eq_false h]
  refine walk2 ?_
  exact fin
theorem neg_a (z:Int):ACalls Tryz.prog 126 [.lit (.int .i64 z)] (.lit (.bool (decide (z<0)))):=by
 refine acalls_of code_shape_Count_1 (by simp [fn_shape_Count_1]) fun C hC => ?_
 by_cases h:z<0
 ·rw [decide_eq_true h]
  refine walk2 ?_
  exact fin
 ·rw [decide_eq_false h]
  refine walk2 ?_
  exact fin
theorem great_a (z:Int):ACalls Tryz.prog 127 [.lit (.int .i64 z)] (.lit (.bool (decide (z > 2048)))):=by
 refine acalls_of code_shape_Count_2 (by simp [fn_shape_Count_2]) fun C hC => ?_
 by_cases h:z > 2048
 ·rw [decide_eq_true h]
  refine walk2 ?_
  exact fin
 ·rw [decide_eq_false h]
  refine walk2 ?_
  exact fin
theorem prodC_at {s:List Int} {k:Nat} {z:Int} (h:s[k]? = some z) (o:Int):prodC (s.drop k) o=if o * z > 2048 then 0 else prodC (s.drop (k+1)) (o * z):=by
 rw [dropA_cons h,prodC]
theorem product_a (s:List Int) (hs:Small s) (hl:s.length≤maxB):ACalls Tryz.prog 129 [.sl 1 (intsA .i64 s)] (.lit (.int .i64 (prodC s 1))):=by
 have hB:maxB=1000000000:=rfl
 have ls:=intsA_len .i64 s
 refine acalls_of code_shape_product (by simp [fn_shape_product]) fun C hC => ?_
 refine walk2 ?_
 refine aw_loopB [0,2,6,7] [] (fun p:Nat × Int=>[(3,.lit (.int .i64 p.2)),(8,.lit (.int .i64 p.1))]) (fun _=>[]) 0 (fun p=>p.1≤s.length∧0≤p.2∧p.2≤2048∧prodC s 1=prodC (s.drop p.1) p.2) (fun p=>s.length - p.1) (0,1) ⟨Nat.zero_le _,by simp only; omega,by simp only; omega,rfl⟩ ?_
 rintro ⟨k,o⟩ ⟨hk,o0,o1,hE⟩
 simp only at hk o0 o1 hE
 dsimp only [List.cons_append,List.nil_append]
 generalize prodC s 1=G at hE ⊢
 by_cases hlt:k<s.length
 ·obtain ⟨z,hz⟩:∃ z,s[k]? = some z:=⟨_,List.getElem?_eq_getElem hlt⟩
  have hzk:=int_at (k:=.i64) hz
  have hzr:=hs z (List.mem_of_getElem? hz)
  rw [prodC_at hz] at hE
  have m0:0≤o * z:=Int.mul_nonneg o0 hzr.1
  have m1:o * z≤2048 * 2048:=Int.mul_le_mul o1 hzr.2 hzr.1 (by omega)
  have hm : -9223372036854775808≤o * z∧o * z≤9223372036854775807:=by omega
  by_cases hg:o * z > 2048
  ·rw [if_pos hg] at hE
   rw [hE]
   refine walk2 ?_
   exact fin
  ·rw [if_neg hg] at hE
   refine walk2 ?_
   exact ⟨(k+1,o * z),by simp only; omega,⟨by simp only; omega,m0,by simp only; omega,hE⟩,wkR hC.m []⟩
 ·rw [List.drop_eq_nil_of_le (by omega),prodC] at hE
  rw [hE]
  refine walk2 ?_
  exact fin
theorem count_a (s:List Int):ACalls Tryz.prog 58 [.sl 1 (intsA .i64 s)] (.tup [.lit (.int .i64 (cnt s).1),.lit (.int .i64 (cnt s).2)]):=by
 have hB:maxB=1000000000:=rfl
 have ls:=intsA_len .i64 s
 refine acalls_of code_shape_Count (by simp [fn_shape_Count]) fun C hC => ?_
 unfold cnt
 by_cases h6:s.length > 6
 ·rw [if_pos h6]
  refine walk2 ?_
  exact fin
 rw [if_neg h6]
 have c1:=containsFunc_a 126 (fun z=>decide (z<0)) neg_a s (by omega)
 have c2:=containsFunc_a 127 (fun z=>decide (z > 2048)) great_a s (by omega)
 have c3:=contains_a 0 s (by omega)
 cases h1:s.any (fun z=>decide (z<0))<;>rw [h1] at c1
 ·rw [if_neg (by simp)]
  cases h2:s.any (fun z=>decide (z > 2048))<;>rw [h2] at c2
  ·rw [if_neg (by simp)]
   have c4:=product_a s (small_of h1 h2) (by omega)
   cases h3:s.any (fun z=>(0:Int) == z)<;>rw [h3] at c3
   ·rw [if_neg (by simp)]
    by_cases h4:prodC s 1=0
    ·rw [if_pos h4]
     refine walk2 ?_
     exact fin
    ·rw [if_neg h4]
     refine walk2 ?_
     exact fin
   ·rw [if_pos rfl]
    refine walk2 ?_
    exact fin
  ·rw [if_pos rfl]
   refine walk2 ?_
   exact fin
 ·rw [if_pos rfl]
  refine walk2 ?_
  exact fin
end Go.Proofs.YtnnipocjapblkaaGreat
