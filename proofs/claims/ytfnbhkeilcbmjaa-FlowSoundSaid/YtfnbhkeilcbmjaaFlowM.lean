/- Flow: a deed, done by ports, and by new ones of the document's, that are thrown away. -/
import Derived.Test.YtfnbhkeilcbmjaaFlowL
namespace Go.Proofs.Ytfnbhkeilcbmjaa
set_option linter.unusedVariables false
open Go.RowKit
abbrev z0 : Nat → Int := fun _ => 0
theorem few_z0 : fewN z0 := fun n => by show (0 : Int) ≤ 0 ∧ (0 : Int) ≤ _; omega

/-- a box of one's own told with less: a cell of which nothing is told -/
theorem weak_boxAny {C : Ctx} {st : St} (id i : Nat) {o : OB} {row : List AV} (ho : hl st.h id = some o) (hrow : o.row = false) (hes : o.es = [row]) {a : AV} (hi : row[i]? = some a) : Weak C st { st with h := (id, some { o with es := [row.set i .any] }) :: st.h } := fun E ac w R => by
  have key : ∀ k o', hl ((id, some { o with es := [row.set i .any] }) :: st.h) k = some o' → (k = id ∧ o' = { o with es := [row.set i .any] }) ∨ hl st.h k = some o' := fun k o' h => by
    rcases hl_new h with ⟨h1, h2⟩ | ⟨_, h2⟩
    · exact .inl ⟨h1, (Option.some.inj h2).symm⟩
    · exact .inr h2
  refine ⟨E, R.defers, R.size, R.tm, ⟨?_, ?_, ?_, R.heap.lt⟩, R.nx, ?_, R.ext, R.imx, R.imn, R.frm⟩
  · intro k o' h1 h2
    rcases key k o' h2 with ⟨rfl, rfl⟩ | h2
    · obtain ⟨k1, k2⟩ := R.heap.ob k o h1 ho
      refine ⟨k1, ?_⟩
      rw [hrow] at k2
      show (bif o.row then _ else _)
      rw [hrow]
      obtain ⟨g, vs, cs, j1, j2, j3, j4, j5, j6⟩ := k2
      rw [hes] at j3
      obtain rfl : row = cs := by simpa using j3
      exact ⟨g, vs, _, j1, j2, rfl, j4, RdL.setAt j5 hi (fun _ _ => trivial), j6⟩
    · exact R.heap.ob k o' h1 h2
  · intro k k' o1 o2 b h1 h2 h3 h4 h5 h6
    have g : ∀ k o1, hl ((id, some { o with es := [row.set i .any] }) :: st.h) k = some o1 → ∃ o3, hl st.h k = some o3 := fun k o1 h => by
      rcases key k o1 h with ⟨rfl, _⟩ | h
      · exact ⟨o, ho⟩
      · exact ⟨o1, h⟩
    obtain ⟨p1, q1⟩ := g k o1 h3
    obtain ⟨p2, q2⟩ := g k' o2 h4
    exact R.heap.apart k k' p1 p2 b h1 h2 q1 q2 h5 h6
  · intro k o' b h1 h2 h3
    rcases key k o' h2 with ⟨rfl, rfl⟩ | h2
    · exact R.heap.im k o b h1 ho h3
    · exact R.heap.im k o' b h1 h2 h3
  · intro k o' b h1 h2 h3
    rcases key k o' h2 with ⟨rfl, rfl⟩ | h2
    · exact R.own k o b h1 ho h3
    · exact R.own k o' b h1 h2 h3

set_option maxHeartbeats 8000000 in
set_option maxRecDepth 10000 in
theorem sole_k0 (c : Cfg) (hc : CfgOK c) (hT : CfgT c) (d : Deed) (hd : deedOK d) (hA : okA d.v) (rd dn : Nat → Int) (l : List Rec) (hr : fewN rd) (hn : fewN dn) (hl : l.length ≤ 100000) (hk : d.kind = 0) :
    AMut Try.prog 11 [.optr 0 0 0, .optr 2 0 0, .agg (deedV d)] [(0, some (pBox c rd dn (.own 1))), (1, some (recRow l)), (2, some (rBox c z0 z0 (.lit (.slice none 0 0))))] 3 (.lit (.bool (ansB (readP c rd d.k d.l) (readP c z0 d.k d.l)))) [(0, some (pBox c (readP c rd d.k d.l).1 dn (.own 1))), (1, some (recRow l)), (2, some (rBox c (readP c z0 d.k d.l).1 z0 .any))] 3 := by
  obtain ⟨d1, d2, d3, d4, d5⟩ := hd
  obtain ⟨o1, o2, o3⟩ := readP_ok hc hT rd d.k d.l
  obtain ⟨q1, q2, q3⟩ := readP_ok hc hT z0 d.k d.l
  have c1 := read_m c hc rd dn l hr d.k d.l d2
  have c2 := rread_m c hc z0 z0 [] few_z0 d.k d.l d2
  have c3 := same25_a _ _ (readP c rd d.k d.l).2.2 (readP c z0 d.k d.l).2.2 o1 q1 (by omega)
  unfold ansB
  refine amut_of code_scrimlaw25_does (by simp [fn_scrimlaw25_does]) fun C hC => ?_
  refine aw_postW ?_
  refine aw_nilF 2 52 52 8 rfl rfl rfl rfl ?_
  refine walk3 ?_
  refine aw_reg (rrun3 ?_)
  refine r_callM [(0, 0), (1, 1)] c1 ?_
  refine rrun3 ?_
  refine rg_nil ⟨rfl, ?_⟩
  refine walk3 ?_
  refine aw_reg (rrun3 ?_)
  refine r_callM [(2, 0), (3, 1)] c2 ?_
  refine rrun3 ?_
  refine rg_nil ⟨rfl, ?_⟩
  refine walk3 ?_
  exact ⟨_, weak_boxAny 2 52 rfl rfl rfl rfl, fin_m []⟩
set_option maxHeartbeats 8000000 in
set_option maxRecDepth 10000 in
theorem sole_k1 (c : Cfg) (hc : CfgOK c) (hT : CfgT c) (d : Deed) (hd : deedOK d) (hA : okA d.v) (rd dn : Nat → Int) (l : List Rec) (hr : fewN rd) (hn : fewN dn) (hl : l.length ≤ 100000) (hk : d.kind = 1) :
    AMut Try.prog 11 [.optr 0 0 0, .optr 2 0 0, .agg (deedV d)] [(0, some (pBox c rd dn (.own 1))), (1, some (recRow l)), (2, some (rBox c z0 z0 (.lit (.slice none 0 0))))] 3 (.lit (.bool (ansB (readP c rd d.k d.l) (readP c z0 d.k d.l)))) [(0, some (pBox c (readP c rd d.k d.l).1 dn (.own 1))), (1, some (recRow l)), (2, some (rBox c (readP c z0 d.k d.l).1 z0 .any))] 3 := by
  obtain ⟨d1, d2, d3, d4, d5⟩ := hd
  obtain ⟨o1, o2, o3⟩ := readP_ok hc hT rd d.k d.l
  obtain ⟨q1, q2, q3⟩ := readP_ok hc hT z0 d.k d.l
  have c1 := read_m c hc rd dn l hr d.k d.l d2
  have c2 := rread_m c hc z0 z0 [] few_z0 d.k d.l d2
  have c3 := same25_a _ _ (readP c rd d.k d.l).2.2 (readP c z0 d.k d.l).2.2 o1 q1 (by omega)
  unfold ansB
  refine amut_of code_scrimlaw25_does (by simp [fn_scrimlaw25_does]) fun C hC => ?_
  refine aw_postW ?_
  refine aw_nilF 2 52 52 8 rfl rfl rfl rfl ?_
  refine walk3 ?_
  refine aw_reg (rrun3 ?_)
  refine r_callM [(0, 0), (1, 1)] c1 ?_
  refine rrun3 ?_
  refine rg_nil ⟨rfl, ?_⟩
  refine walk3 ?_
  refine aw_reg (rrun3 ?_)
  refine r_callM [(2, 0), (3, 1)] c2 ?_
  refine rrun3 ?_
  refine rg_nil ⟨rfl, ?_⟩
  refine walk3 ?_
  exact ⟨_, weak_boxAny 2 52 rfl rfl rfl rfl, fin_m []⟩
set_option maxHeartbeats 8000000 in
set_option maxRecDepth 10000 in
theorem sole_k2 (c : Cfg) (hc : CfgOK c) (hT : CfgT c) (d : Deed) (hd : deedOK d) (hA : okA d.v) (rd dn : Nat → Int) (l : List Rec) (hr : fewN rd) (hn : fewN dn) (hl : l.length ≤ 100000) (hk : d.kind = 2) :
    AMut Try.prog 11 [.optr 0 0 0, .optr 2 0 0, .agg (deedV d)] [(0, some (pBox c rd dn (.own 1))), (1, some (recRow l)), (2, some (rBox c z0 z0 (.lit (.slice none 0 0))))] 3 (.lit (.bool (ansB (drawP c dn d.k d.l) (drawP c z0 d.k d.l)))) [(0, some (pBox c rd (drawP c dn d.k d.l).1 (.own 1))), (1, some (recRow l)), (2, some (rBox c z0 (drawP c z0 d.k d.l).1 .any))] 3 := by
  obtain ⟨d1, d2, d3, d4, d5⟩ := hd
  obtain ⟨o1, o2, o3⟩ := drawP_ok hc dn d.k d.l
  obtain ⟨q1, q2, q3⟩ := drawP_ok hc z0 d.k d.l
  have c1 := draw_m c hc rd dn l hn d.k d.l d2
  have c2 := rdraw_m c hc z0 z0 [] few_z0 d.k d.l d2
  have c3 := same25_a _ _ (drawP c dn d.k d.l).2.2 (drawP c z0 d.k d.l).2.2 o1 q1 (by omega)
  unfold ansB
  refine amut_of code_scrimlaw25_does (by simp [fn_scrimlaw25_does]) fun C hC => ?_
  refine aw_postW ?_
  refine aw_nilF 2 52 52 8 rfl rfl rfl rfl ?_
  refine walk3 ?_
  refine aw_reg (rrun3 ?_)
  refine r_callM [(0, 0), (1, 1)] c1 ?_
  refine rrun3 ?_
  refine rg_nil ⟨rfl, ?_⟩
  refine walk3 ?_
  refine aw_reg (rrun3 ?_)
  refine r_callM [(2, 0), (3, 1)] c2 ?_
  refine rrun3 ?_
  refine rg_nil ⟨rfl, ?_⟩
  refine walk3 ?_
  exact ⟨_, weak_boxAny 2 52 rfl rfl rfl rfl, fin_m []⟩
set_option maxHeartbeats 8000000 in
set_option maxRecDepth 10000 in
theorem sole_n3 (c : Cfg) (hc : CfgOK c) (hT : CfgT c) (d : Deed) (hd : deedOK d) (hA : okA d.v) (rd dn : Nat → Int) (l : List Rec) (hr : fewN rd) (hn : fewN dn) (hl : l.length ≤ 100000) (hk : d.kind = 3) (hno : (sendP c [] d.k d.v d.l).2 ≠ 0) :
    AMut Try.prog 11 [.optr 0 0 0, .optr 2 0 0, .agg (deedV d)] [(0, some (pBox c rd dn (.own 1))), (1, some (recRow l)), (2, some (rBox c z0 z0 (.lit (.slice none 0 0))))] 3 (.lit (.bool true)) [(0, some (pBox c rd dn (.own 1))), (1, some (recRow l)), (2, some (rBox c z0 z0 .any))] 3 := by
  obtain ⟨d1, d2, d3, d4, d5⟩ := hd
  have c1 := send_no c hc rd dn l d.k d.v hA d.l d2 (by rw [sendP_err c l []]; exact hno)
  have c2 := rsend_no c hc z0 z0 [] d.k d.v hA d.l d2 (by exact hno)
  rw [sendP_err c [] l] at c2
  refine amut_of code_scrimlaw25_does (by simp [fn_scrimlaw25_does]) fun C hC => ?_
  refine aw_postW ?_
  refine aw_nilF 2 52 52 8 rfl rfl rfl rfl ?_
  refine walk3 ?_
  refine aw_reg (rrun3 ?_)
  refine r_callM [(0, 0), (1, 1)] c1 ?_
  refine rrun3 ?_
  refine r_callM [(2, 0), (3, 1)] c2 ?_
  refine rrun3 ?_
  refine rg_nil ⟨rfl, ?_⟩
  refine walk3 ?_
  exact ⟨_, weak_boxAny 2 52 rfl rfl rfl rfl, fin_m []⟩
set_option maxHeartbeats 8000000 in
set_option maxRecDepth 10000 in
theorem sole_y3 (c : Cfg) (hc : CfgOK c) (hT : CfgT c) (d : Deed) (hd : deedOK d) (hA : okA d.v) (rd dn : Nat → Int) (l : List Rec) (hr : fewN rd) (hn : fewN dn) (hl : l.length ≤ 100000) (hk : d.kind = 3) (r : Rec) (hrr : r = ⟨1, d.k, 0, 0, 0, eraA d.v⟩) (hok : (sendP c [] d.k d.v d.l).2 = 0) :
    AMut Try.prog 11 [.optr 0 0 0, .optr 2 0 0, .agg (deedV d)] [(0, some (pBox c rd dn (.own 1))), (1, some (recRow l)), (2, some (rBox c z0 z0 (.lit (.slice none 0 0))))] 3 (.lit (.bool true)) [(0, some (pBox c rd dn (.own 3))), (1, none), (2, some (rBox c z0 z0 .any)), (3, some (recRow (l ++ [r])))] 4 := by
  obtain ⟨d1, d2, d3, d4, d5⟩ := hd
  have k1 : (sendP c l d.k d.v d.l).2 = 0 := by rw [sendP_err c l []]; exact hok
  have k2 : (sendP c [] d.k d.v d.l).2 = 0 := by exact hok
  have c1 := send_m c hc rd dn l hl d.k d.v hA d.l d2 k1
  have c2 := rsend_m c hc z0 z0 [] (by simp) d.k d.v hA d.l d2 k2
  rw [sendP_rec k1, ← hrr] at c1
  rw [sendP_rec k2, ← hrr] at c2
  refine amut_of code_scrimlaw25_does (by simp [fn_scrimlaw25_does]) fun C hC => ?_
  refine aw_postW ?_
  refine aw_nilF 2 52 52 8 rfl rfl rfl rfl ?_
  refine walk3 ?_
  refine aw_reg (rrun3 ?_)
  refine r_callN [(0, 0), (1, 1)] c1 ?_
  refine rrun3 ?_
  refine r_callN [(2, 0), (3, 1)] c2 ?_
  refine rrun3 ?_
  refine rg_nil ⟨rfl, ?_⟩
  refine walk3 ?_
  exact ⟨_, weak_boxAny 2 52 rfl rfl rfl rfl, fin_m [(3, 5)]⟩
set_option maxHeartbeats 8000000 in
set_option maxRecDepth 10000 in
theorem sole_n4 (c : Cfg) (hc : CfgOK c) (hT : CfgT c) (d : Deed) (hd : deedOK d) (hA : okA d.v) (rd dn : Nat → Int) (l : List Rec) (hr : fewN rd) (hn : fewN dn) (hl : l.length ≤ 100000) (hk : d.kind = 4) (hno : (sendP c [] d.k d.v d.l).2 ≠ 0) :
    AMut Try.prog 11 [.optr 0 0 0, .optr 2 0 0, .agg (deedV d)] [(0, some (pBox c rd dn (.own 1))), (1, some (recRow l)), (2, some (rBox c z0 z0 (.lit (.slice none 0 0))))] 3 (.lit (.bool true)) [(0, some (pBox c rd dn (.own 1))), (1, some (recRow l)), (2, some (rBox c z0 z0 .any))] 3 := by
  obtain ⟨d1, d2, d3, d4, d5⟩ := hd
  have c1 := send_no c hc rd dn l d.k d.v hA d.l d2 (by rw [sendP_err c l []]; exact hno)
  have c2 := rsend_no c hc z0 z0 [] d.k d.v hA d.l d2 (by exact hno)
  rw [sendP_err c [] l] at c2
  refine amut_of code_scrimlaw25_does (by simp [fn_scrimlaw25_does]) fun C hC => ?_
  refine aw_postW ?_
  refine aw_nilF 2 52 52 8 rfl rfl rfl rfl ?_
  refine walk3 ?_
  refine aw_reg (rrun3 ?_)
  refine r_callM [(0, 0), (1, 1)] c1 ?_
  refine rrun3 ?_
  refine r_callM [(2, 0), (3, 1)] c2 ?_
  refine rrun3 ?_
  refine rg_nil ⟨rfl, ?_⟩
  refine walk3 ?_
  exact ⟨_, weak_boxAny 2 52 rfl rfl rfl rfl, fin_m []⟩
set_option maxHeartbeats 8000000 in
set_option maxRecDepth 10000 in
theorem sole_y4 (c : Cfg) (hc : CfgOK c) (hT : CfgT c) (d : Deed) (hd : deedOK d) (hA : okA d.v) (rd dn : Nat → Int) (l : List Rec) (hr : fewN rd) (hn : fewN dn) (hl : l.length ≤ 100000) (hk : d.kind = 4) (r : Rec) (hrr : r = ⟨1, d.k, 0, 0, 0, eraA d.v⟩) (hok : (sendP c [] d.k d.v d.l).2 = 0) :
    AMut Try.prog 11 [.optr 0 0 0, .optr 2 0 0, .agg (deedV d)] [(0, some (pBox c rd dn (.own 1))), (1, some (recRow l)), (2, some (rBox c z0 z0 (.lit (.slice none 0 0))))] 3 (.lit (.bool true)) [(0, some (pBox c rd dn (.own 3))), (1, none), (2, some (rBox c z0 z0 .any)), (3, some (recRow (l ++ [r])))] 4 := by
  obtain ⟨d1, d2, d3, d4, d5⟩ := hd
  have k1 : (sendP c l d.k d.v d.l).2 = 0 := by rw [sendP_err c l []]; exact hok
  have k2 : (sendP c [] d.k d.v d.l).2 = 0 := by exact hok
  have c1 := send_m c hc rd dn l hl d.k d.v hA d.l d2 k1
  have c2 := rsend_m c hc z0 z0 [] (by simp) d.k d.v hA d.l d2 k2
  rw [sendP_rec k1, ← hrr] at c1
  rw [sendP_rec k2, ← hrr] at c2
  refine amut_of code_scrimlaw25_does (by simp [fn_scrimlaw25_does]) fun C hC => ?_
  refine aw_postW ?_
  refine aw_nilF 2 52 52 8 rfl rfl rfl rfl ?_
  refine walk3 ?_
  refine aw_reg (rrun3 ?_)
  refine r_callN [(0, 0), (1, 1)] c1 ?_
  refine rrun3 ?_
  refine r_callN [(2, 0), (3, 1)] c2 ?_
  refine rrun3 ?_
  refine rg_nil ⟨rfl, ?_⟩
  refine walk3 ?_
  exact ⟨_, weak_boxAny 2 52 rfl rfl rfl rfl, fin_m [(3, 5)]⟩
set_option maxHeartbeats 8000000 in
set_option maxRecDepth 10000 in
theorem sole_n5 (c : Cfg) (hc : CfgOK c) (hT : CfgT c) (d : Deed) (hd : deedOK d) (hA : okA d.v) (rd dn : Nat → Int) (l : List Rec) (hr : fewN rd) (hn : fewN dn) (hl : l.length ≤ 100000) (hk : d.kind = 5) (hno : (releP c [] d.to d.v d.l).2.2 ≠ 0) :
    AMut Try.prog 11 [.optr 0 0 0, .optr 2 0 0, .agg (deedV d)] [(0, some (pBox c rd dn (.own 1))), (1, some (recRow l)), (2, some (rBox c z0 z0 (.lit (.slice none 0 0))))] 3 (.lit (.bool true)) [(0, some (pBox c rd dn (.own 1))), (1, some (recRow l)), (2, some (rBox c z0 z0 .any))] 3 := by
  obtain ⟨d1, d2, d3, d4, d5⟩ := hd
  obtain ⟨o1, o2, o3⟩ := releP_ok (c := c) (l := l) d3 d1 (pc := d.l)
  have c1 := rele_no c hc rd dn l d.to d3 d.v hA d.l d2 (by rw [releP_err c l []]; exact hno)
  have c2 := rrele_no c hc z0 z0 [] d.to d3 d.v hA d.l d2 (by exact hno)
  rw [releP_err c [] l] at c2
  have c3 := same25_a _ _ (releP c l d.to d.v d.l).2.2 (releP c l d.to d.v d.l).2.2 o1 o1 (by omega)
  rw [beq_self_eq_true, sameA_refl] at c3
  refine amut_of code_scrimlaw25_does (by simp [fn_scrimlaw25_does]) fun C hC => ?_
  refine aw_postW ?_
  refine aw_nilF 2 52 52 8 rfl rfl rfl rfl ?_
  refine walk3 ?_
  refine aw_reg (rrun3 ?_)
  refine r_callM [(0, 0), (1, 1)] c1 ?_
  refine rrun3 ?_
  refine rg_nil ⟨rfl, ?_⟩
  refine walk3 ?_
  refine aw_reg (rrun3 ?_)
  refine r_callM [(2, 0), (3, 1)] c2 ?_
  refine rrun3 ?_
  refine rg_nil ⟨rfl, ?_⟩
  refine walk3 ?_
  exact ⟨_, weak_boxAny 2 52 rfl rfl rfl rfl, fin_m []⟩
set_option maxHeartbeats 8000000 in
set_option maxRecDepth 10000 in
theorem sole_y5 (c : Cfg) (hc : CfgOK c) (hT : CfgT c) (d : Deed) (hd : deedOK d) (hA : okA d.v) (rd dn : Nat → Int) (l : List Rec) (hr : fewN rd) (hn : fewN dn) (hl : l.length ≤ 100000) (hk : d.kind = 5) (r : Rec) (hrr : r = ⟨2, 0, totA d.v, d.to, 0, eraA d.v⟩) (hok : (releP c [] d.to d.v d.l).2.2 = 0) :
    AMut Try.prog 11 [.optr 0 0 0, .optr 2 0 0, .agg (deedV d)] [(0, some (pBox c rd dn (.own 1))), (1, some (recRow l)), (2, some (rBox c z0 z0 (.lit (.slice none 0 0))))] 3 (.lit (.bool true)) [(0, some (pBox c rd dn (.own 3))), (1, none), (2, some (rBox c z0 z0 .any)), (3, some (recRow (l ++ [r])))] 4 := by
  obtain ⟨d1, d2, d3, d4, d5⟩ := hd
  obtain ⟨o1, o2, o3⟩ := releP_ok (c := c) (l := l) d3 d1 (pc := d.l)
  have k1 : (releP c l d.to d.v d.l).2.2 = 0 := by rw [releP_err c l []]; exact hok
  have k2 : (releP c [] d.to d.v d.l).2.2 = 0 := by exact hok
  have c1 := rele_m c hc rd dn l hl d.to d3 d.v hA d.l d2 k1
  have c2 := rrele_m c hc z0 z0 [] (by simp) d.to d3 d.v hA d.l d2 k2
  rw [releP_rec k1, ← hrr] at c1
  rw [releP_rec k2, ← hrr, releP_err c [] l] at c2
  have c3 := same25_a _ _ 0 0 o1 o1 (by omega)
  rw [beq_self_eq_true, sameA_refl] at c3
  refine amut_of code_scrimlaw25_does (by simp [fn_scrimlaw25_does]) fun C hC => ?_
  refine aw_postW ?_
  refine aw_nilF 2 52 52 8 rfl rfl rfl rfl ?_
  refine walk3 ?_
  refine aw_reg (rrun3 ?_)
  refine r_callN [(0, 0), (1, 1)] c1 ?_
  refine rrun3 ?_
  refine rg_nil ⟨rfl, ?_⟩
  refine walk3 ?_
  refine aw_reg (rrun3 ?_)
  refine r_callN [(2, 0), (3, 1)] c2 ?_
  refine rrun3 ?_
  refine rg_nil ⟨rfl, ?_⟩
  refine walk3 ?_
  exact ⟨_, weak_boxAny 2 52 rfl rfl rfl rfl, fin_m [(3, 5)]⟩
set_option maxHeartbeats 8000000 in
set_option maxRecDepth 10000 in
theorem sole_n6 (c : Cfg) (hc : CfgOK c) (hT : CfgT c) (d : Deed) (hd : deedOK d) (hA : okA d.v) (rd dn : Nat → Int) (l : List Rec) (hr : fewN rd) (hn : fewN dn) (hl : l.length ≤ 100000) (hk : d.kind = 6) (hno : (repoP c [] d.k d.l).2 ≠ 0) :
    AMut Try.prog 11 [.optr 0 0 0, .optr 2 0 0, .agg (deedV d)] [(0, some (pBox c rd dn (.own 1))), (1, some (recRow l)), (2, some (rBox c z0 z0 (.lit (.slice none 0 0))))] 3 (.lit (.bool true)) [(0, some (pBox c rd dn (.own 1))), (1, some (recRow l)), (2, some (rBox c z0 z0 .any))] 3 := by
  obtain ⟨d1, d2, d3, d4, d5⟩ := hd
  have c1 := repo_no c hc rd dn l d.k d.l d2 (by rw [repoP_err c l []]; exact hno)
  have c2 := rrepo_no c hc z0 z0 [] d.k d.l d2 (by exact hno)
  rw [repoP_err c [] l] at c2
  refine amut_of code_scrimlaw25_does (by simp [fn_scrimlaw25_does]) fun C hC => ?_
  refine aw_postW ?_
  refine aw_nilF 2 52 52 8 rfl rfl rfl rfl ?_
  refine walk3 ?_
  refine aw_reg (rrun3 ?_)
  refine r_callM [(0, 0), (1, 1)] c1 ?_
  refine rrun3 ?_
  refine r_callM [(2, 0), (3, 1)] c2 ?_
  refine rrun3 ?_
  refine rg_nil ⟨rfl, ?_⟩
  refine walk3 ?_
  exact ⟨_, weak_boxAny 2 52 rfl rfl rfl rfl, fin_m []⟩
set_option maxHeartbeats 8000000 in
set_option maxRecDepth 10000 in
theorem sole_y6 (c : Cfg) (hc : CfgOK c) (hT : CfgT c) (d : Deed) (hd : deedOK d) (hA : okA d.v) (rd dn : Nat → Int) (l : List Rec) (hr : fewN rd) (hn : fewN dn) (hl : l.length ≤ 100000) (hk : d.kind = 6) (r : Rec) (hrr : r = ⟨3, 0, 0, 0, d.k, zArr⟩) (hok : (repoP c [] d.k d.l).2 = 0) :
    AMut Try.prog 11 [.optr 0 0 0, .optr 2 0 0, .agg (deedV d)] [(0, some (pBox c rd dn (.own 1))), (1, some (recRow l)), (2, some (rBox c z0 z0 (.lit (.slice none 0 0))))] 3 (.lit (.bool true)) [(0, some (pBox c rd dn (.own 3))), (1, none), (2, some (rBox c z0 z0 .any)), (3, some (recRow (l ++ [r])))] 4 := by
  obtain ⟨d1, d2, d3, d4, d5⟩ := hd
  have k1 : (repoP c l d.k d.l).2 = 0 := by rw [repoP_err c l []]; exact hok
  have k2 : (repoP c [] d.k d.l).2 = 0 := by exact hok
  have c1 := repo_m c hc rd dn l hl d.k d.l d2 k1
  have c2 := rrepo_m c hc z0 z0 [] (by simp) d.k d.l d2 k2
  rw [repoP_rec k1, ← hrr] at c1
  rw [repoP_rec k2, ← hrr] at c2
  refine amut_of code_scrimlaw25_does (by simp [fn_scrimlaw25_does]) fun C hC => ?_
  refine aw_postW ?_
  refine aw_nilF 2 52 52 8 rfl rfl rfl rfl ?_
  refine walk3 ?_
  refine aw_reg (rrun3 ?_)
  refine r_callN [(0, 0), (1, 1)] c1 ?_
  refine rrun3 ?_
  refine r_callN [(2, 0), (3, 1)] c2 ?_
  refine rrun3 ?_
  refine rg_nil ⟨rfl, ?_⟩
  refine walk3 ?_
  exact ⟨_, weak_boxAny 2 52 rfl rfl rfl rfl, fin_m [(3, 5)]⟩
set_option maxHeartbeats 8000000 in
set_option maxRecDepth 10000 in
theorem sole_o (c : Cfg) (hc : CfgOK c) (hT : CfgT c) (d : Deed) (hd : deedOK d) (hA : okA d.v) (rd dn : Nat → Int) (l : List Rec) (hr : fewN rd) (hn : fewN dn) (hl : l.length ≤ 100000) (hk : ¬ (d.kind = 0 ∨ d.kind = 1 ∨ d.kind = 2 ∨ d.kind = 3 ∨ d.kind = 4 ∨ d.kind = 5 ∨ d.kind = 6)) :
    AMut Try.prog 11 [.optr 0 0 0, .optr 2 0 0, .agg (deedV d)] [(0, some (pBox c rd dn (.own 1))), (1, some (recRow l)), (2, some (rBox c z0 z0 (.lit (.slice none 0 0))))] 3 (.lit (.bool true)) [(0, some (pBox c rd dn (.own 1))), (1, some (recRow l)), (2, some (rBox c z0 z0 .any))] 3 := by
  refine amut_of code_scrimlaw25_does (by simp [fn_scrimlaw25_does]) fun C hC => ?_
  refine aw_postW ?_
  refine walk3 ?_
  exact ⟨_, weak_boxAny 2 52 rfl rfl rfl rfl, fin_m []⟩

theorem sole_no (c : Cfg) (hc : CfgOK c) (hT : CfgT c) (d : Deed) (hd : deedOK d) (hA : okA d.v) (rd dn : Nat → Int) (l : List Rec) (hr : fewN rd) (hn : fewN dn) (hl : l.length ≤ 100000) (hno : recN c d = none) :
    AMut Try.prog 11 [.optr 0 0 0, .optr 2 0 0, .agg (deedV d)] [(0, some (pBox c rd dn (.own 1))), (1, some (recRow l)), (2, some (rBox c z0 z0 (.lit (.slice none 0 0))))] 3 (.lit (.bool (doesB c d rd dn z0 z0))) [(0, some (pBox c (rdN c d rd) (dnN c d dn) (.own 1))), (1, some (recRow l)), (2, some (rBox c (rdN c d z0) (dnN c d z0) .any))] 3 := by
  unfold recN at hno
  by_cases h0 : d.kind = 0
  · rw [show doesB c d rd dn z0 z0 = ansB (readP c rd d.k d.l) (readP c z0 d.k d.l) from if_pos (.inl h0), show rdN c d rd = (readP c rd d.k d.l).1 from if_pos (.inl h0), show rdN c d z0 = (readP c z0 d.k d.l).1 from if_pos (.inl h0), show dnN c d dn = dn from if_neg (by omega), show dnN c d z0 = z0 from if_neg (by omega)]
    exact sole_k0 c hc hT d hd hA rd dn l hr hn hl h0
  by_cases h1 : d.kind = 1
  · rw [show doesB c d rd dn z0 z0 = ansB (readP c rd d.k d.l) (readP c z0 d.k d.l) from if_pos (.inr h1), show rdN c d rd = (readP c rd d.k d.l).1 from if_pos (.inr h1), show rdN c d z0 = (readP c z0 d.k d.l).1 from if_pos (.inr h1), show dnN c d dn = dn from if_neg (by omega), show dnN c d z0 = z0 from if_neg (by omega)]
    exact sole_k1 c hc hT d hd hA rd dn l hr hn hl h1
  rw [show rdN c d rd = rd from if_neg (by omega), show rdN c d z0 = z0 from if_neg (by omega)]
  by_cases h2 : d.kind = 2
  · rw [show doesB c d rd dn z0 z0 = ansB (drawP c dn d.k d.l) (drawP c z0 d.k d.l) from (if_neg (by omega)).trans (if_pos h2), show dnN c d dn = (drawP c dn d.k d.l).1 from if_pos h2, show dnN c d z0 = (drawP c z0 d.k d.l).1 from if_pos h2]
    exact sole_k2 c hc hT d hd hA rd dn l hr hn hl h2
  rw [show doesB c d rd dn z0 z0 = true from (if_neg (by omega)).trans (if_neg h2), show dnN c d dn = dn from if_neg h2, show dnN c d z0 = z0 from if_neg h2]
  by_cases h3 : d.kind = 3 ∨ d.kind = 4
  · rw [if_pos h3] at hno
    have hn' : (sendP c [] d.k d.v d.l).2 ≠ 0 := fun h => by rw [if_pos h] at hno; cases hno
    rcases h3 with h3 | h3
    · exact sole_n3 c hc hT d hd hA rd dn l hr hn hl h3 hn'
    · exact sole_n4 c hc hT d hd hA rd dn l hr hn hl h3 hn'
  rw [if_neg h3] at hno
  by_cases h5 : d.kind = 5
  · rw [if_pos h5] at hno
    exact sole_n5 c hc hT d hd hA rd dn l hr hn hl h5 (fun h => by rw [if_pos h] at hno; cases hno)
  rw [if_neg h5] at hno
  by_cases h6 : d.kind = 6
  · rw [if_pos h6] at hno
    exact sole_n6 c hc hT d hd hA rd dn l hr hn hl h6 (fun h => by rw [if_pos h] at hno; cases hno)
  exact sole_o c hc hT d hd hA rd dn l hr hn hl (by omega)

theorem sole_yes (c : Cfg) (hc : CfgOK c) (hT : CfgT c) (d : Deed) (hd : deedOK d) (hA : okA d.v) (rd dn : Nat → Int) (l : List Rec) (hr : fewN rd) (hn : fewN dn) (hl : l.length ≤ 100000) (r : Rec) (hy : recN c d = some r) :
    AMut Try.prog 11 [.optr 0 0 0, .optr 2 0 0, .agg (deedV d)] [(0, some (pBox c rd dn (.own 1))), (1, some (recRow l)), (2, some (rBox c z0 z0 (.lit (.slice none 0 0))))] 3 (.lit (.bool true)) [(0, some (pBox c rd dn (.own 3))), (1, none), (2, some (rBox c z0 z0 .any)), (3, some (recRow (l ++ [r])))] 4 := by
  unfold recN at hy
  by_cases h3 : d.kind = 3 ∨ d.kind = 4
  · rw [if_pos h3] at hy
    by_cases hn' : (sendP c [] d.k d.v d.l).2 = 0
    · rw [if_pos hn'] at hy
      rcases h3 with h3 | h3
      · exact sole_y3 c hc hT d hd hA rd dn l hr hn hl h3 r (Option.some.inj hy).symm hn'
      · exact sole_y4 c hc hT d hd hA rd dn l hr hn hl h3 r (Option.some.inj hy).symm hn'
    · rw [if_neg hn'] at hy; cases hy
  rw [if_neg h3] at hy
  by_cases h5 : d.kind = 5
  · rw [if_pos h5] at hy
    by_cases hn' : (releP c [] d.to d.v d.l).2.2 = 0
    · rw [if_pos hn'] at hy
      exact sole_y5 c hc hT d hd hA rd dn l hr hn hl h5 r (Option.some.inj hy).symm hn'
    · rw [if_neg hn'] at hy; cases hy
  rw [if_neg h5] at hy
  by_cases h6 : d.kind = 6
  · rw [if_pos h6] at hy
    by_cases hn' : (repoP c [] d.k d.l).2 = 0
    · rw [if_pos hn'] at hy
      exact sole_y6 c hc hT d hd hA rd dn l hr hn hl h6 r (Option.some.inj hy).symm hn'
    · rw [if_neg hn'] at hy; cases hy
  rw [if_neg h6] at hy; cases hy
end Go.Proofs.Ytfnbhkeilcbmjaa
