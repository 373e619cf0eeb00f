/- Flow: a deed, done in both. -/
import Derived.Test.YtfnbhkeilcbmjaaFlowI
namespace Go.Proofs.Ytfnbhkeilcbmjaa
set_option linter.unusedVariables false
open Go.RowKit

theorem arrOK_z : arrOK zArr := ⟨by omega, by simp, by simp [reachBytes], by simp [reachBytes], trivial⟩
theorem arrOK_cov {A : Arr} (h : arrOK A) (l : Nat) (hl : l < 18446744073709551616) : arrOK (covA l (eraA A)) := arrOK.relab (fun a ha => or_lt a l ha hl) (arrOK.relab (fun _ _ => by omega) h)
theorem arrOK_numA {z : Int} (h0 : -9223372036854775808 ≤ z) (h1 : z ≤ 9223372036854775807) : arrOK (numA z) := by
  have hll : (limbs z.natAbs).length ≤ 2 := by
    rw [← digI_limbs h0 h1]
    have k1 := trimI_len (digI z)
    have hd := digI_len z
    omega
  have hlo := limbs_ok z.natAbs
  have hR : reachBytes = 140737488351232 := rfl
  simp only [numA, arrOK, cellsOK, intC, cellOK, arrsOK, ofZ, numOK, List.length_nil, List.length_cons]
  refine ⟨by omega, by simp, by omega, by omega, ⟨by omega, by decide, ⟨fun y hy => ?_, fun y hy => ?_, by simpa using (by omega), by omega⟩, by decide, by omega, trivial⟩, trivial⟩
  · obtain ⟨q1, q2⟩ := hlo y hy
    simp [Lit.wf, IntKind.min, IntKind.max, IntKind.bits, IntKind.signed]; omega
  · simp only [List.mem_cons, List.not_mem_nil, or_false] at hy
    subst hy; decide
theorem readP_ok {c : Cfg} (hc : CfgOK c) (hT : CfgT c) (rd : Nat → Int) (k : Int) (pc : Nat) : arrOK (readP c rd k pc).2.1 ∧ 0 ≤ (readP c rd k pc).2.2 ∧ (readP c rd k pc).2.2 ≤ 14 := by
  unfold readP
  split
  · exact ⟨arrOK_z, by simp, by simp⟩
  · split
    · exact ⟨arrOK_z, by simp, by simp⟩
    · split
      · exact ⟨arrOK_z, by simp, by simp⟩
      · rename_i A hA
        exact ⟨arrOK_cov ((hT.ins _).2.2 A (List.mem_of_getElem? hA)) _ (hc.cl _), by simp, by simp⟩
theorem drawP_ok {c : Cfg} (hc : CfgOK c) (dn : Nat → Int) (k : Int) (pc : Nat) : arrOK (drawP c dn k pc).2.1 ∧ 0 ≤ (drawP c dn k pc).2.2 ∧ (drawP c dn k pc).2.2 ≤ 14 := by
  unfold drawP
  split
  · exact ⟨arrOK_z, by simp, by simp⟩
  · split
    · exact ⟨arrOK_z, by simp, by simp⟩
    · split
      · exact ⟨arrOK_z, by simp, by simp⟩
      · rename_i z hz
        obtain ⟨z0, z1⟩ := (hc.dr _).2 z (List.mem_of_getElem? hz)
        exact ⟨arrOK_cov (arrOK_numA z0 z1) _ (hc.lb _), by simp, by simp⟩
theorem sendP_err (c : Cfg) (l l2 : List Rec) (k : Int) (A : Arr) (pc : Nat) : (sendP c l k A pc).2 = (sendP c l2 k A pc).2 := by
  unfold sendP; split; rfl; split <;> rfl
theorem sendP_rec {c : Cfg} {l : List Rec} {k : Int} {A : Arr} {pc : Nat} (h : (sendP c l k A pc).2 = 0) : (sendP c l k A pc).1 = l ++ [⟨1, k, 0, 0, 0, eraA A⟩] := by
  unfold sendP at h ⊢
  split at h
  · simp at h
  · rename_i h1; rw [if_neg h1]; split at h
    · simp at h
    · rename_i h2; rw [if_neg h2]
theorem releP_err (c : Cfg) (l l2 : List Rec) (to : Nat) (A : Arr) (pc : Nat) : (releP c l to A pc).2 = (releP c l2 to A pc).2 := by
  unfold releP; split <;> rfl
theorem releP_rec {c : Cfg} {l : List Rec} {to : Nat} {A : Arr} {pc : Nat} (h : (releP c l to A pc).2.2 = 0) : (releP c l to A pc).1 = l ++ [⟨2, 0, totA A, to, 0, eraA A⟩] := by
  unfold releP at h ⊢
  split at h
  · simp at h
  · rename_i h1; rw [if_neg h1]
theorem releP_ok {c : Cfg} {l : List Rec} {to : Nat} (ht : to < 18446744073709551616) {A : Arr} (hA : arrOK A) {pc : Nat} : arrOK (releP c l to A pc).2.1 ∧ 0 ≤ (releP c l to A pc).2.2 ∧ (releP c l to A pc).2.2 ≤ 14 := by
  unfold releP
  split
  · exact ⟨arrOK_z, by simp, by simp⟩
  · exact ⟨arrOK_cov hA _ ht, by simp, by simp⟩
theorem repoP_err (c : Cfg) (l l2 : List Rec) (k : Int) (pc : Nat) : (repoP c l k pc).2 = (repoP c l2 k pc).2 := by
  unfold repoP; split <;> rfl
theorem repoP_rec {c : Cfg} {l : List Rec} {k : Int} {pc : Nat} (h : (repoP c l k pc).2 = 0) : (repoP c l k pc).1 = l ++ [⟨3, 0, 0, 0, k, zArr⟩] := by
  unfold repoP at h ⊢
  split at h
  · simp at h
  · rename_i h1; rw [if_neg h1]

/-- the record that a deed makes -/
def recN (c : Cfg) (d : Deed) : Option Rec :=
  if d.kind = 3 ∨ d.kind = 4 then (if (sendP c [] d.k d.v d.l).2 = 0 then some ⟨1, d.k, 0, 0, 0, eraA d.v⟩ else none)
  else if d.kind = 5 then (if (releP c [] d.to d.v d.l).2.2 = 0 then some ⟨2, 0, totA d.v, d.to, 0, eraA d.v⟩ else none)
  else if d.kind = 6 then (if (repoP c [] d.k d.l).2 = 0 then some ⟨3, 0, 0, 0, d.k, zArr⟩ else none) else none
def rdN (c : Cfg) (d : Deed) (rd : Nat → Int) : Nat → Int := if d.kind = 0 ∨ d.kind = 1 then (readP c rd d.k d.l).1 else rd
def dnN (c : Cfg) (d : Deed) (dn : Nat → Int) : Nat → Int := if d.kind = 2 then (drawP c dn d.k d.l).1 else dn
def ansB (a b : (Nat → Int) × Arr × Int) : Bool := (a.2.2 == b.2.2) && sameA a.2.1 b.2.1
def doesB (c : Cfg) (d : Deed) (rd dn rd2 dn2 : Nat → Int) : Bool :=
  if d.kind = 0 ∨ d.kind = 1 then ansB (readP c rd d.k d.l) (readP c rd2 d.k d.l) else if d.kind = 2 then ansB (drawP c dn d.k d.l) (drawP c dn2 d.k d.l) else true
theorem ansB_refl (a : (Nat → Int) × Arr × Int) : ansB a a = true := by simp [ansB, sameA_refl]
theorem doesB_refl (c : Cfg) (d : Deed) (rd dn : Nat → Int) : doesB c d rd dn rd dn = true := by
  unfold doesB; split; exact ansB_refl _; split; exact ansB_refl _; rfl

set_option maxHeartbeats 8000000 in
set_option maxRecDepth 10000 in
theorem does_k0 (c : Cfg) (hc : CfgOK c) (hT : CfgT c) (d : Deed) (hd : deedOK d) (hA : okA d.v) (rd dn rd2 dn2 : Nat → Int) (l l2 : List Rec) (hr : fewN rd) (hn : fewN dn) (hr2 : fewN rd2) (hn2 : fewN dn2) (hl : l.length ≤ 100000) (hl2 : l2.length ≤ 100000) (hk : d.kind = 0) :
    AMut Try.prog 11 [.optr 0 0 0, .optr 2 0 0, .agg (deedV d)] [(0, some (pBox c rd dn (.own 1))), (1, some (recRow l)), (2, some (rBox c rd2 dn2 (.own 3))), (3, some (recRow l2))] 4 (.lit (.bool (ansB (readP c rd d.k d.l) (readP c rd2 d.k d.l)))) [(0, some (pBox c (readP c rd d.k d.l).1 dn (.own 1))), (1, some (recRow l)), (2, some (rBox c (readP c rd2 d.k d.l).1 dn2 (.own 3))), (3, some (recRow l2))] 4 := by
  obtain ⟨d1, d2, d3, d4, d5⟩ := hd
  obtain ⟨o1, o2, o3⟩ := readP_ok hc hT rd d.k d.l
  obtain ⟨q1, q2, q3⟩ := readP_ok hc hT rd2 d.k d.l
  have c1 := read_m c hc rd dn l hr d.k d.l d2
  have c2 := rread_m c hc rd2 dn2 l2 hr2 d.k d.l d2
  have c3 := same25_a _ _ (readP c rd d.k d.l).2.2 (readP c rd2 d.k d.l).2.2 o1 q1 (by omega)
  unfold ansB
  refine amut_of code_scrimlaw25_does (by simp [fn_scrimlaw25_does]) fun C hC => ?_
  refine walk3 ?_
  refine aw_reg (rrun3 ?_)
  refine r_callM [(0, 0), (1, 1)] c1 ?_
  refine rrun3 ?_
  refine rg_nil ⟨rfl, ?_⟩
  refine walk3 ?_
  refine aw_reg (rrun3 ?_)
  refine r_callM [(2, 0), (3, 1)] c2 ?_
  refine rrun3 ?_
  refine rg_nil ⟨rfl, ?_⟩
  refine walk3 ?_
  exact fin_m []
set_option maxHeartbeats 8000000 in
set_option maxRecDepth 10000 in
theorem does_k1 (c : Cfg) (hc : CfgOK c) (hT : CfgT c) (d : Deed) (hd : deedOK d) (hA : okA d.v) (rd dn rd2 dn2 : Nat → Int) (l l2 : List Rec) (hr : fewN rd) (hn : fewN dn) (hr2 : fewN rd2) (hn2 : fewN dn2) (hl : l.length ≤ 100000) (hl2 : l2.length ≤ 100000) (hk : d.kind = 1) :
    AMut Try.prog 11 [.optr 0 0 0, .optr 2 0 0, .agg (deedV d)] [(0, some (pBox c rd dn (.own 1))), (1, some (recRow l)), (2, some (rBox c rd2 dn2 (.own 3))), (3, some (recRow l2))] 4 (.lit (.bool (ansB (readP c rd d.k d.l) (readP c rd2 d.k d.l)))) [(0, some (pBox c (readP c rd d.k d.l).1 dn (.own 1))), (1, some (recRow l)), (2, some (rBox c (readP c rd2 d.k d.l).1 dn2 (.own 3))), (3, some (recRow l2))] 4 := by
  obtain ⟨d1, d2, d3, d4, d5⟩ := hd
  obtain ⟨o1, o2, o3⟩ := readP_ok hc hT rd d.k d.l
  obtain ⟨q1, q2, q3⟩ := readP_ok hc hT rd2 d.k d.l
  have c1 := read_m c hc rd dn l hr d.k d.l d2
  have c2 := rread_m c hc rd2 dn2 l2 hr2 d.k d.l d2
  have c3 := same25_a _ _ (readP c rd d.k d.l).2.2 (readP c rd2 d.k d.l).2.2 o1 q1 (by omega)
  unfold ansB
  refine amut_of code_scrimlaw25_does (by simp [fn_scrimlaw25_does]) fun C hC => ?_
  refine walk3 ?_
  refine aw_reg (rrun3 ?_)
  refine r_callM [(0, 0), (1, 1)] c1 ?_
  refine rrun3 ?_
  refine rg_nil ⟨rfl, ?_⟩
  refine walk3 ?_
  refine aw_reg (rrun3 ?_)
  refine r_callM [(2, 0), (3, 1)] c2 ?_
  refine rrun3 ?_
  refine rg_nil ⟨rfl, ?_⟩
  refine walk3 ?_
  exact fin_m []
set_option maxHeartbeats 8000000 in
set_option maxRecDepth 10000 in
theorem does_k2 (c : Cfg) (hc : CfgOK c) (hT : CfgT c) (d : Deed) (hd : deedOK d) (hA : okA d.v) (rd dn rd2 dn2 : Nat → Int) (l l2 : List Rec) (hr : fewN rd) (hn : fewN dn) (hr2 : fewN rd2) (hn2 : fewN dn2) (hl : l.length ≤ 100000) (hl2 : l2.length ≤ 100000) (hk : d.kind = 2) :
    AMut Try.prog 11 [.optr 0 0 0, .optr 2 0 0, .agg (deedV d)] [(0, some (pBox c rd dn (.own 1))), (1, some (recRow l)), (2, some (rBox c rd2 dn2 (.own 3))), (3, some (recRow l2))] 4 (.lit (.bool (ansB (drawP c dn d.k d.l) (drawP c dn2 d.k d.l)))) [(0, some (pBox c rd (drawP c dn d.k d.l).1 (.own 1))), (1, some (recRow l)), (2, some (rBox c rd2 (drawP c dn2 d.k d.l).1 (.own 3))), (3, some (recRow l2))] 4 := by
  obtain ⟨d1, d2, d3, d4, d5⟩ := hd
  obtain ⟨o1, o2, o3⟩ := drawP_ok hc dn d.k d.l
  obtain ⟨q1, q2, q3⟩ := drawP_ok hc dn2 d.k d.l
  have c1 := draw_m c hc rd dn l hn d.k d.l d2
  have c2 := rdraw_m c hc rd2 dn2 l2 hn2 d.k d.l d2
  have c3 := same25_a _ _ (drawP c dn d.k d.l).2.2 (drawP c dn2 d.k d.l).2.2 o1 q1 (by omega)
  unfold ansB
  refine amut_of code_scrimlaw25_does (by simp [fn_scrimlaw25_does]) fun C hC => ?_
  refine walk3 ?_
  refine aw_reg (rrun3 ?_)
  refine r_callM [(0, 0), (1, 1)] c1 ?_
  refine rrun3 ?_
  refine rg_nil ⟨rfl, ?_⟩
  refine walk3 ?_
  refine aw_reg (rrun3 ?_)
  refine r_callM [(2, 0), (3, 1)] c2 ?_
  refine rrun3 ?_
  refine rg_nil ⟨rfl, ?_⟩
  refine walk3 ?_
  exact fin_m []
set_option maxHeartbeats 8000000 in
set_option maxRecDepth 10000 in
theorem does_n3 (c : Cfg) (hc : CfgOK c) (hT : CfgT c) (d : Deed) (hd : deedOK d) (hA : okA d.v) (rd dn rd2 dn2 : Nat → Int) (l l2 : List Rec) (hr : fewN rd) (hn : fewN dn) (hr2 : fewN rd2) (hn2 : fewN dn2) (hl : l.length ≤ 100000) (hl2 : l2.length ≤ 100000) (hk : d.kind = 3) (hno : (sendP c [] d.k d.v d.l).2 ≠ 0) :
    AMut Try.prog 11 [.optr 0 0 0, .optr 2 0 0, .agg (deedV d)] [(0, some (pBox c rd dn (.own 1))), (1, some (recRow l)), (2, some (rBox c rd2 dn2 (.own 3))), (3, some (recRow l2))] 4 (.lit (.bool true)) [(0, some (pBox c rd dn (.own 1))), (1, some (recRow l)), (2, some (rBox c rd2 dn2 (.own 3))), (3, some (recRow l2))] 4 := by
  obtain ⟨d1, d2, d3, d4, d5⟩ := hd
  have c1 := send_no c hc rd dn l d.k d.v hA d.l d2 (by rw [sendP_err c l []]; exact hno)
  have c2 := rsend_no c hc rd2 dn2 l2 d.k d.v hA d.l d2 (by rw [sendP_err c l2 []]; exact hno)
  rw [sendP_err c l2 l] at c2
  refine amut_of code_scrimlaw25_does (by simp [fn_scrimlaw25_does]) fun C hC => ?_
  refine walk3 ?_
  refine aw_reg (rrun3 ?_)
  refine r_callM [(0, 0), (1, 1)] c1 ?_
  refine rrun3 ?_
  refine r_callM [(2, 0), (3, 1)] c2 ?_
  refine rrun3 ?_
  refine rg_nil ⟨rfl, ?_⟩
  refine walk3 ?_
  exact fin_m []
set_option maxHeartbeats 8000000 in
set_option maxRecDepth 10000 in
theorem does_y3 (c : Cfg) (hc : CfgOK c) (hT : CfgT c) (d : Deed) (hd : deedOK d) (hA : okA d.v) (rd dn rd2 dn2 : Nat → Int) (l l2 : List Rec) (hr : fewN rd) (hn : fewN dn) (hr2 : fewN rd2) (hn2 : fewN dn2) (hl : l.length ≤ 100000) (hl2 : l2.length ≤ 100000) (hk : d.kind = 3) (r : Rec) (hrr : r = ⟨1, d.k, 0, 0, 0, eraA d.v⟩) (hok : (sendP c [] d.k d.v d.l).2 = 0) :
    AMut Try.prog 11 [.optr 0 0 0, .optr 2 0 0, .agg (deedV d)] [(0, some (pBox c rd dn (.own 1))), (1, some (recRow l)), (2, some (rBox c rd2 dn2 (.own 3))), (3, some (recRow l2))] 4 (.lit (.bool true)) [(0, some (pBox c rd dn (.own 4))), (1, none), (2, some (rBox c rd2 dn2 (.own 5))), (3, none), (4, some (recRow (l ++ [r]))), (5, some (recRow (l2 ++ [r])))] 6 := by
  obtain ⟨d1, d2, d3, d4, d5⟩ := hd
  have k1 : (sendP c l d.k d.v d.l).2 = 0 := by rw [sendP_err c l []]; exact hok
  have k2 : (sendP c l2 d.k d.v d.l).2 = 0 := by rw [sendP_err c l2 []]; exact hok
  have c1 := send_m c hc rd dn l hl d.k d.v hA d.l d2 k1
  have c2 := rsend_m c hc rd2 dn2 l2 hl2 d.k d.v hA d.l d2 k2
  rw [sendP_rec k1, ← hrr] at c1
  rw [sendP_rec k2, ← hrr] at c2
  refine amut_of code_scrimlaw25_does (by simp [fn_scrimlaw25_does]) fun C hC => ?_
  refine walk3 ?_
  refine aw_reg (rrun3 ?_)
  refine r_callN [(0, 0), (1, 1)] c1 ?_
  refine rrun3 ?_
  refine r_callN [(2, 0), (3, 1)] c2 ?_
  refine rrun3 ?_
  refine rg_nil ⟨rfl, ?_⟩
  refine walk3 ?_
  exact fin_m [(4, 5), (5, 6)]
set_option maxHeartbeats 8000000 in
set_option maxRecDepth 10000 in
theorem does_n4 (c : Cfg) (hc : CfgOK c) (hT : CfgT c) (d : Deed) (hd : deedOK d) (hA : okA d.v) (rd dn rd2 dn2 : Nat → Int) (l l2 : List Rec) (hr : fewN rd) (hn : fewN dn) (hr2 : fewN rd2) (hn2 : fewN dn2) (hl : l.length ≤ 100000) (hl2 : l2.length ≤ 100000) (hk : d.kind = 4) (hno : (sendP c [] d.k d.v d.l).2 ≠ 0) :
    AMut Try.prog 11 [.optr 0 0 0, .optr 2 0 0, .agg (deedV d)] [(0, some (pBox c rd dn (.own 1))), (1, some (recRow l)), (2, some (rBox c rd2 dn2 (.own 3))), (3, some (recRow l2))] 4 (.lit (.bool true)) [(0, some (pBox c rd dn (.own 1))), (1, some (recRow l)), (2, some (rBox c rd2 dn2 (.own 3))), (3, some (recRow l2))] 4 := by
  obtain ⟨d1, d2, d3, d4, d5⟩ := hd
  have c1 := send_no c hc rd dn l d.k d.v hA d.l d2 (by rw [sendP_err c l []]; exact hno)
  have c2 := rsend_no c hc rd2 dn2 l2 d.k d.v hA d.l d2 (by rw [sendP_err c l2 []]; exact hno)
  rw [sendP_err c l2 l] at c2
  refine amut_of code_scrimlaw25_does (by simp [fn_scrimlaw25_does]) fun C hC => ?_
  refine walk3 ?_
  refine aw_reg (rrun3 ?_)
  refine r_callM [(0, 0), (1, 1)] c1 ?_
  refine rrun3 ?_
  refine r_callM [(2, 0), (3, 1)] c2 ?_
  refine rrun3 ?_
  refine rg_nil ⟨rfl, ?_⟩
  refine walk3 ?_
  exact fin_m []
set_option maxHeartbeats 8000000 in
set_option maxRecDepth 10000 in
theorem does_y4 (c : Cfg) (hc : CfgOK c) (hT : CfgT c) (d : Deed) (hd : deedOK d) (hA : okA d.v) (rd dn rd2 dn2 : Nat → Int) (l l2 : List Rec) (hr : fewN rd) (hn : fewN dn) (hr2 : fewN rd2) (hn2 : fewN dn2) (hl : l.length ≤ 100000) (hl2 : l2.length ≤ 100000) (hk : d.kind = 4) (r : Rec) (hrr : r = ⟨1, d.k, 0, 0, 0, eraA d.v⟩) (hok : (sendP c [] d.k d.v d.l).2 = 0) :
    AMut Try.prog 11 [.optr 0 0 0, .optr 2 0 0, .agg (deedV d)] [(0, some (pBox c rd dn (.own 1))), (1, some (recRow l)), (2, some (rBox c rd2 dn2 (.own 3))), (3, some (recRow l2))] 4 (.lit (.bool true)) [(0, some (pBox c rd dn (.own 4))), (1, none), (2, some (rBox c rd2 dn2 (.own 5))), (3, none), (4, some (recRow (l ++ [r]))), (5, some (recRow (l2 ++ [r])))] 6 := by
  obtain ⟨d1, d2, d3, d4, d5⟩ := hd
  have k1 : (sendP c l d.k d.v d.l).2 = 0 := by rw [sendP_err c l []]; exact hok
  have k2 : (sendP c l2 d.k d.v d.l).2 = 0 := by rw [sendP_err c l2 []]; exact hok
  have c1 := send_m c hc rd dn l hl d.k d.v hA d.l d2 k1
  have c2 := rsend_m c hc rd2 dn2 l2 hl2 d.k d.v hA d.l d2 k2
  rw [sendP_rec k1, ← hrr] at c1
  rw [sendP_rec k2, ← hrr] at c2
  refine amut_of code_scrimlaw25_does (by simp [fn_scrimlaw25_does]) fun C hC => ?_
  refine walk3 ?_
  refine aw_reg (rrun3 ?_)
  refine r_callN [(0, 0), (1, 1)] c1 ?_
  refine rrun3 ?_
  refine r_callN [(2, 0), (3, 1)] c2 ?_
  refine rrun3 ?_
  refine rg_nil ⟨rfl, ?_⟩
  refine walk3 ?_
  exact fin_m [(4, 5), (5, 6)]
set_option maxHeartbeats 8000000 in
set_option maxRecDepth 10000 in
theorem does_n5 (c : Cfg) (hc : CfgOK c) (hT : CfgT c) (d : Deed) (hd : deedOK d) (hA : okA d.v) (rd dn rd2 dn2 : Nat → Int) (l l2 : List Rec) (hr : fewN rd) (hn : fewN dn) (hr2 : fewN rd2) (hn2 : fewN dn2) (hl : l.length ≤ 100000) (hl2 : l2.length ≤ 100000) (hk : d.kind = 5) (hno : (releP c [] d.to d.v d.l).2.2 ≠ 0) :
    AMut Try.prog 11 [.optr 0 0 0, .optr 2 0 0, .agg (deedV d)] [(0, some (pBox c rd dn (.own 1))), (1, some (recRow l)), (2, some (rBox c rd2 dn2 (.own 3))), (3, some (recRow l2))] 4 (.lit (.bool true)) [(0, some (pBox c rd dn (.own 1))), (1, some (recRow l)), (2, some (rBox c rd2 dn2 (.own 3))), (3, some (recRow l2))] 4 := by
  obtain ⟨d1, d2, d3, d4, d5⟩ := hd
  obtain ⟨o1, o2, o3⟩ := releP_ok (c := c) (l := l) d3 d1 (pc := d.l)
  have c1 := rele_no c hc rd dn l d.to d3 d.v hA d.l d2 (by rw [releP_err c l []]; exact hno)
  have c2 := rrele_no c hc rd2 dn2 l2 d.to d3 d.v hA d.l d2 (by rw [releP_err c l2 []]; exact hno)
  rw [releP_err c l2 l] at c2
  have c3 := same25_a _ _ (releP c l d.to d.v d.l).2.2 (releP c l d.to d.v d.l).2.2 o1 o1 (by omega)
  rw [beq_self_eq_true, sameA_refl] at c3
  refine amut_of code_scrimlaw25_does (by simp [fn_scrimlaw25_does]) fun C hC => ?_
  refine walk3 ?_
  refine aw_reg (rrun3 ?_)
  refine r_callM [(0, 0), (1, 1)] c1 ?_
  refine rrun3 ?_
  refine rg_nil ⟨rfl, ?_⟩
  refine walk3 ?_
  refine aw_reg (rrun3 ?_)
  refine r_callM [(2, 0), (3, 1)] c2 ?_
  refine rrun3 ?_
  refine rg_nil ⟨rfl, ?_⟩
  refine walk3 ?_
  exact fin_m []
set_option maxHeartbeats 8000000 in
set_option maxRecDepth 10000 in
theorem does_y5 (c : Cfg) (hc : CfgOK c) (hT : CfgT c) (d : Deed) (hd : deedOK d) (hA : okA d.v) (rd dn rd2 dn2 : Nat → Int) (l l2 : List Rec) (hr : fewN rd) (hn : fewN dn) (hr2 : fewN rd2) (hn2 : fewN dn2) (hl : l.length ≤ 100000) (hl2 : l2.length ≤ 100000) (hk : d.kind = 5) (r : Rec) (hrr : r = ⟨2, 0, totA d.v, d.to, 0, eraA d.v⟩) (hok : (releP c [] d.to d.v d.l).2.2 = 0) :
    AMut Try.prog 11 [.optr 0 0 0, .optr 2 0 0, .agg (deedV d)] [(0, some (pBox c rd dn (.own 1))), (1, some (recRow l)), (2, some (rBox c rd2 dn2 (.own 3))), (3, some (recRow l2))] 4 (.lit (.bool true)) [(0, some (pBox c rd dn (.own 4))), (1, none), (2, some (rBox c rd2 dn2 (.own 5))), (3, none), (4, some (recRow (l ++ [r]))), (5, some (recRow (l2 ++ [r])))] 6 := by
  obtain ⟨d1, d2, d3, d4, d5⟩ := hd
  obtain ⟨o1, o2, o3⟩ := releP_ok (c := c) (l := l) d3 d1 (pc := d.l)
  have k1 : (releP c l d.to d.v d.l).2.2 = 0 := by rw [releP_err c l []]; exact hok
  have k2 : (releP c l2 d.to d.v d.l).2.2 = 0 := by rw [releP_err c l2 []]; exact hok
  have c1 := rele_m c hc rd dn l hl d.to d3 d.v hA d.l d2 k1
  have c2 := rrele_m c hc rd2 dn2 l2 hl2 d.to d3 d.v hA d.l d2 k2
  rw [releP_rec k1, ← hrr] at c1
  rw [releP_rec k2, ← hrr, releP_err c l2 l] at c2
  have c3 := same25_a _ _ 0 0 o1 o1 (by omega)
  rw [beq_self_eq_true, sameA_refl] at c3
  refine amut_of code_scrimlaw25_does (by simp [fn_scrimlaw25_does]) fun C hC => ?_
  refine walk3 ?_
  refine aw_reg (rrun3 ?_)
  refine r_callN [(0, 0), (1, 1)] c1 ?_
  refine rrun3 ?_
  refine rg_nil ⟨rfl, ?_⟩
  refine walk3 ?_
  refine aw_reg (rrun3 ?_)
  refine r_callN [(2, 0), (3, 1)] c2 ?_
  refine rrun3 ?_
  refine rg_nil ⟨rfl, ?_⟩
  refine walk3 ?_
  exact fin_m [(4, 5), (5, 7)]
set_option maxHeartbeats 8000000 in
set_option maxRecDepth 10000 in
theorem does_n6 (c : Cfg) (hc : CfgOK c) (hT : CfgT c) (d : Deed) (hd : deedOK d) (hA : okA d.v) (rd dn rd2 dn2 : Nat → Int) (l l2 : List Rec) (hr : fewN rd) (hn : fewN dn) (hr2 : fewN rd2) (hn2 : fewN dn2) (hl : l.length ≤ 100000) (hl2 : l2.length ≤ 100000) (hk : d.kind = 6) (hno : (repoP c [] d.k d.l).2 ≠ 0) :
    AMut Try.prog 11 [.optr 0 0 0, .optr 2 0 0, .agg (deedV d)] [(0, some (pBox c rd dn (.own 1))), (1, some (recRow l)), (2, some (rBox c rd2 dn2 (.own 3))), (3, some (recRow l2))] 4 (.lit (.bool true)) [(0, some (pBox c rd dn (.own 1))), (1, some (recRow l)), (2, some (rBox c rd2 dn2 (.own 3))), (3, some (recRow l2))] 4 := by
  obtain ⟨d1, d2, d3, d4, d5⟩ := hd
  have c1 := repo_no c hc rd dn l d.k d.l d2 (by rw [repoP_err c l []]; exact hno)
  have c2 := rrepo_no c hc rd2 dn2 l2 d.k d.l d2 (by rw [repoP_err c l2 []]; exact hno)
  rw [repoP_err c l2 l] at c2
  refine amut_of code_scrimlaw25_does (by simp [fn_scrimlaw25_does]) fun C hC => ?_
  refine walk3 ?_
  refine aw_reg (rrun3 ?_)
  refine r_callM [(0, 0), (1, 1)] c1 ?_
  refine rrun3 ?_
  refine r_callM [(2, 0), (3, 1)] c2 ?_
  refine rrun3 ?_
  refine rg_nil ⟨rfl, ?_⟩
  refine walk3 ?_
  exact fin_m []
set_option maxHeartbeats 8000000 in
set_option maxRecDepth 10000 in
theorem does_y6 (c : Cfg) (hc : CfgOK c) (hT : CfgT c) (d : Deed) (hd : deedOK d) (hA : okA d.v) (rd dn rd2 dn2 : Nat → Int) (l l2 : List Rec) (hr : fewN rd) (hn : fewN dn) (hr2 : fewN rd2) (hn2 : fewN dn2) (hl : l.length ≤ 100000) (hl2 : l2.length ≤ 100000) (hk : d.kind = 6) (r : Rec) (hrr : r = ⟨3, 0, 0, 0, d.k, zArr⟩) (hok : (repoP c [] d.k d.l).2 = 0) :
    AMut Try.prog 11 [.optr 0 0 0, .optr 2 0 0, .agg (deedV d)] [(0, some (pBox c rd dn (.own 1))), (1, some (recRow l)), (2, some (rBox c rd2 dn2 (.own 3))), (3, some (recRow l2))] 4 (.lit (.bool true)) [(0, some (pBox c rd dn (.own 4))), (1, none), (2, some (rBox c rd2 dn2 (.own 5))), (3, none), (4, some (recRow (l ++ [r]))), (5, some (recRow (l2 ++ [r])))] 6 := by
  obtain ⟨d1, d2, d3, d4, d5⟩ := hd
  have k1 : (repoP c l d.k d.l).2 = 0 := by rw [repoP_err c l []]; exact hok
  have k2 : (repoP c l2 d.k d.l).2 = 0 := by rw [repoP_err c l2 []]; exact hok
  have c1 := repo_m c hc rd dn l hl d.k d.l d2 k1
  have c2 := rrepo_m c hc rd2 dn2 l2 hl2 d.k d.l d2 k2
  rw [repoP_rec k1, ← hrr] at c1
  rw [repoP_rec k2, ← hrr] at c2
  refine amut_of code_scrimlaw25_does (by simp [fn_scrimlaw25_does]) fun C hC => ?_
  refine walk3 ?_
  refine aw_reg (rrun3 ?_)
  refine r_callN [(0, 0), (1, 1)] c1 ?_
  refine rrun3 ?_
  refine r_callN [(2, 0), (3, 1)] c2 ?_
  refine rrun3 ?_
  refine rg_nil ⟨rfl, ?_⟩
  refine walk3 ?_
  exact fin_m [(4, 5), (5, 6)]
set_option maxHeartbeats 8000000 in
set_option maxRecDepth 10000 in
theorem does_o (c : Cfg) (hc : CfgOK c) (hT : CfgT c) (d : Deed) (hd : deedOK d) (hA : okA d.v) (rd dn rd2 dn2 : Nat → Int) (l l2 : List Rec) (hr : fewN rd) (hn : fewN dn) (hr2 : fewN rd2) (hn2 : fewN dn2) (hl : l.length ≤ 100000) (hl2 : l2.length ≤ 100000) (hk : ¬ (d.kind = 0 ∨ d.kind = 1 ∨ d.kind = 2 ∨ d.kind = 3 ∨ d.kind = 4 ∨ d.kind = 5 ∨ d.kind = 6)) :
    AMut Try.prog 11 [.optr 0 0 0, .optr 2 0 0, .agg (deedV d)] [(0, some (pBox c rd dn (.own 1))), (1, some (recRow l)), (2, some (rBox c rd2 dn2 (.own 3))), (3, some (recRow l2))] 4 (.lit (.bool true)) [(0, some (pBox c rd dn (.own 1))), (1, some (recRow l)), (2, some (rBox c rd2 dn2 (.own 3))), (3, some (recRow l2))] 4 := by
  refine amut_of code_scrimlaw25_does (by simp [fn_scrimlaw25_does]) fun C hC => ?_
  refine walk3 ?_
  exact fin_m []

theorem does_no (c : Cfg) (hc : CfgOK c) (hT : CfgT c) (d : Deed) (hd : deedOK d) (hA : okA d.v) (rd dn rd2 dn2 : Nat → Int) (l l2 : List Rec) (hr : fewN rd) (hn : fewN dn) (hr2 : fewN rd2) (hn2 : fewN dn2) (hl : l.length ≤ 100000) (hl2 : l2.length ≤ 100000) (hno : recN c d = none) :
    AMut Try.prog 11 [.optr 0 0 0, .optr 2 0 0, .agg (deedV d)] [(0, some (pBox c rd dn (.own 1))), (1, some (recRow l)), (2, some (rBox c rd2 dn2 (.own 3))), (3, some (recRow l2))] 4 (.lit (.bool (doesB c d rd dn rd2 dn2))) [(0, some (pBox c (rdN c d rd) (dnN c d dn) (.own 1))), (1, some (recRow l)), (2, some (rBox c (rdN c d rd2) (dnN c d dn2) (.own 3))), (3, some (recRow l2))] 4 := by
  unfold recN at hno
  by_cases h0 : d.kind = 0
  · rw [show doesB c d rd dn rd2 dn2 = ansB (readP c rd d.k d.l) (readP c rd2 d.k d.l) from if_pos (.inl h0), show rdN c d rd = (readP c rd d.k d.l).1 from if_pos (.inl h0), show rdN c d rd2 = (readP c rd2 d.k d.l).1 from if_pos (.inl h0), show dnN c d dn = dn from if_neg (by omega), show dnN c d dn2 = dn2 from if_neg (by omega)]
    exact does_k0 c hc hT d hd hA rd dn rd2 dn2 l l2 hr hn hr2 hn2 hl hl2 h0
  by_cases h1 : d.kind = 1
  · rw [show doesB c d rd dn rd2 dn2 = ansB (readP c rd d.k d.l) (readP c rd2 d.k d.l) from if_pos (.inr h1), show rdN c d rd = (readP c rd d.k d.l).1 from if_pos (.inr h1), show rdN c d rd2 = (readP c rd2 d.k d.l).1 from if_pos (.inr h1), show dnN c d dn = dn from if_neg (by omega), show dnN c d dn2 = dn2 from if_neg (by omega)]
    exact does_k1 c hc hT d hd hA rd dn rd2 dn2 l l2 hr hn hr2 hn2 hl hl2 h1
  rw [show rdN c d rd = rd from if_neg (by omega), show rdN c d rd2 = rd2 from if_neg (by omega)]
  by_cases h2 : d.kind = 2
  · rw [show doesB c d rd dn rd2 dn2 = ansB (drawP c dn d.k d.l) (drawP c dn2 d.k d.l) from (if_neg (by omega)).trans (if_pos h2), show dnN c d dn = (drawP c dn d.k d.l).1 from if_pos h2, show dnN c d dn2 = (drawP c dn2 d.k d.l).1 from if_pos h2]
    exact does_k2 c hc hT d hd hA rd dn rd2 dn2 l l2 hr hn hr2 hn2 hl hl2 h2
  rw [show doesB c d rd dn rd2 dn2 = true from (if_neg (by omega)).trans (if_neg h2), show dnN c d dn = dn from if_neg h2, show dnN c d dn2 = dn2 from if_neg h2]
  by_cases h3 : d.kind = 3 ∨ d.kind = 4
  · rw [if_pos h3] at hno
    have hn' : (sendP c [] d.k d.v d.l).2 ≠ 0 := fun h => by rw [if_pos h] at hno; cases hno
    rcases h3 with h3 | h3
    · exact does_n3 c hc hT d hd hA rd dn rd2 dn2 l l2 hr hn hr2 hn2 hl hl2 h3 hn'
    · exact does_n4 c hc hT d hd hA rd dn rd2 dn2 l l2 hr hn hr2 hn2 hl hl2 h3 hn'
  rw [if_neg h3] at hno
  by_cases h5 : d.kind = 5
  · rw [if_pos h5] at hno
    exact does_n5 c hc hT d hd hA rd dn rd2 dn2 l l2 hr hn hr2 hn2 hl hl2 h5 (fun h => by rw [if_pos h] at hno; cases hno)
  rw [if_neg h5] at hno
  by_cases h6 : d.kind = 6
  · rw [if_pos h6] at hno
    exact does_n6 c hc hT d hd hA rd dn rd2 dn2 l l2 hr hn hr2 hn2 hl hl2 h6 (fun h => by rw [if_pos h] at hno; cases hno)
  exact does_o c hc hT d hd hA rd dn rd2 dn2 l l2 hr hn hr2 hn2 hl hl2 (by omega)

theorem does_yes (c : Cfg) (hc : CfgOK c) (hT : CfgT c) (d : Deed) (hd : deedOK d) (hA : okA d.v) (rd dn rd2 dn2 : Nat → Int) (l l2 : List Rec) (hr : fewN rd) (hn : fewN dn) (hr2 : fewN rd2) (hn2 : fewN dn2) (hl : l.length ≤ 100000) (hl2 : l2.length ≤ 100000) (r : Rec) (hy : recN c d = some r) :
    AMut Try.prog 11 [.optr 0 0 0, .optr 2 0 0, .agg (deedV d)] [(0, some (pBox c rd dn (.own 1))), (1, some (recRow l)), (2, some (rBox c rd2 dn2 (.own 3))), (3, some (recRow l2))] 4 (.lit (.bool true)) [(0, some (pBox c rd dn (.own 4))), (1, none), (2, some (rBox c rd2 dn2 (.own 5))), (3, none), (4, some (recRow (l ++ [r]))), (5, some (recRow (l2 ++ [r])))] 6 := by
  unfold recN at hy
  by_cases h3 : d.kind = 3 ∨ d.kind = 4
  · rw [if_pos h3] at hy
    by_cases hn' : (sendP c [] d.k d.v d.l).2 = 0
    · rw [if_pos hn'] at hy
      rcases h3 with h3 | h3
      · exact does_y3 c hc hT d hd hA rd dn rd2 dn2 l l2 hr hn hr2 hn2 hl hl2 h3 r (Option.some.inj hy).symm hn'
      · exact does_y4 c hc hT d hd hA rd dn rd2 dn2 l l2 hr hn hr2 hn2 hl hl2 h3 r (Option.some.inj hy).symm hn'
    · rw [if_neg hn'] at hy; cases hy
  rw [if_neg h3] at hy
  by_cases h5 : d.kind = 5
  · rw [if_pos h5] at hy
    by_cases hn' : (releP c [] d.to d.v d.l).2.2 = 0
    · rw [if_pos hn'] at hy
      exact does_y5 c hc hT d hd hA rd dn rd2 dn2 l l2 hr hn hr2 hn2 hl hl2 h5 r (Option.some.inj hy).symm hn'
    · rw [if_neg hn'] at hy; cases hy
  rw [if_neg h5] at hy
  by_cases h6 : d.kind = 6
  · rw [if_pos h6] at hy
    by_cases hn' : (repoP c [] d.k d.l).2 = 0
    · rw [if_pos hn'] at hy
      exact does_y6 c hc hT d hd hA rd dn rd2 dn2 l l2 hr hn hr2 hn2 hl hl2 h6 r (Option.some.inj hy).symm hn'
    · rw [if_neg hn'] at hy; cases hy
  rw [if_neg h6] at hy; cases hy
theorem rdN_of {c : Cfg} {d : Deed} {r : Rec} (h : recN c d = some r) (rd dn : Nat → Int) : rdN c d rd = rd ∧ dnN c d dn = dn := by
  unfold recN at h
  unfold rdN dnN
  by_cases h3 : d.kind = 3 ∨ d.kind = 4
  · exact ⟨if_neg (by omega), if_neg (by omega)⟩
  rw [if_neg h3] at h
  by_cases h5 : d.kind = 5
  · exact ⟨if_neg (by omega), if_neg (by omega)⟩
  rw [if_neg h5] at h
  by_cases h6 : d.kind = 6
  · exact ⟨if_neg (by omega), if_neg (by omega)⟩
  rw [if_neg h6] at h; cases h
end Go.Proofs.Ytfnbhkeilcbmjaa
