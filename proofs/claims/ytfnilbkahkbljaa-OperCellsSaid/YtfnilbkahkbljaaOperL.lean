/- OperLines: the law's walk. -/
import Derived.Test.YtfnilbkahkbljaaOperX
namespace Go.Proofs.Ytfnilbkahkbljaa
set_option linter.unusedVariables false
open Go.RowKit

theorem prodC_of_le : ∀ (l : List Int) (o : Int), 0 < o → (∀ z ∈ l, 0 < z) → o * prodL l ≤ 2048 → prodC l o = o * prodL l
  | [], o, _, _, _ => by simp [prodC, prodL]
  | z :: l, o, ho, hp, hle => by
    have hz := hp z (by simp)
    have hl := prodL_pos l (fun y hy => hp y (by simp [hy]))
    have hoz : 0 < o * z := Int.mul_pos ho hz
    rw [prodL_cons, ← Int.mul_assoc] at hle
    have h1 : o * z * 1 ≤ o * z * prodL l := Int.mul_le_mul_of_nonneg_left (by omega) (by omega)
    rw [Int.mul_one] at h1
    rw [prodC, if_neg (by omega), prodC_of_le l (o * z) hoz (fun y hy => hp y (by simp [hy])) hle, prodL_cons, Int.mul_assoc]

theorem cnt_err_zero {s : List Int} (first : Bool) (h1 : (cnt s).2 = 0) (hs : 0 < s.length) (he : (cnt (restP s (axisN s first))).2 ≠ 0) : (cnt s).1 = 0 := by
  refine Classical.byContradiction fun h0 => he ?_
  have hle := cnt_le s
  have hsm := cnt_small h1
  have hl6 := cnt_len h1
  rw [cnt_prod h1] at h0 hle
  have hpos := pos_of_prod hsm (by omega)
  have hx : axisN s first < s.length := by unfold axisN; split <;> omega
  generalize axisN s first = x at hx ⊢
  obtain ⟨z, hz⟩ : ∃ z, s[x]? = some z := ⟨_, List.getElem?_eq_getElem hx⟩
  have e1 : s = s.take x ++ z :: s.drop (x + 1) := by rw [← dropA_cons hz, List.take_append_drop]
  have hzp := hpos z (List.mem_of_getElem? hz)
  have hmem : ∀ y ∈ restP s x, y ∈ s := fun y hy => by
    rcases List.mem_append.1 hy with h | h
    · exact List.mem_of_mem_take h
    · exact List.mem_of_mem_drop h
  have p1 := prodL_pos (s.take x) (fun y hy => hpos y (List.mem_of_mem_take hy))
  have p2 := prodL_pos (s.drop (x + 1)) (fun y hy => hpos y (List.mem_of_mem_drop hy))
  have ep : prodL s = prodL (restP s x) * z := by
    conv => lhs; rw [e1]
    rw [prodL_append, prodL_cons, restP, prodL_append, Int.mul_assoc, Int.mul_comm z]
  have pr := prodL_pos (restP s x) (fun y hy => hpos y (hmem y hy))
  have hle2 : prodL (restP s x) * 1 ≤ prodL (restP s x) * z := Int.mul_le_mul_of_nonneg_left (by omega) (by omega)
  rw [Int.mul_one] at hle2
  have hpc := prodC_of_le (restP s x) 1 (by omega) (fun y hy => hpos y (hmem y hy)) (by rw [Int.one_mul]; omega)
  rw [Int.one_mul] at hpc
  have hlr : (restP s x).length ≤ 6 := by simp [restP]; omega
  unfold cnt
  rw [if_neg (by omega), if_neg (by
    intro h; simp only [List.any_eq_true, decide_eq_true_eq] at h; obtain ⟨y, hy, hlt⟩ := h; have := hpos y (hmem y hy); omega), if_neg (by
    intro h; simp only [List.any_eq_true, decide_eq_true_eq] at h; obtain ⟨y, hy, hlt⟩ := h; have := hsm y (hmem y hy); omega), if_neg (by
    intro h; simp only [List.any_eq_true, beq_iff_eq] at h; obtain ⟨y, hy, hlt⟩ := h; have := hpos y (hmem y hy); omega), if_neg (by omega)]

theorem operLines_nil (A : Arr) (first : Bool) (hA : okA A) (hsh : A.shape = []) (hl : A.cells.length ≤ 5000) : ACalls Try.prog 16 [.agg (arrV A), .lit (.bool first)] (.tup [.sl 1 ([A.cells].map lineV), .sl 1 (intsA .i64 [])]) := by
  obtain ⟨a1, a2, a3, a4⟩ := hA.parts
  have c1 := vector_a A.cells (by omega) (fun c hc => okC_len (okCs_mem.1 a4 c hc))
  have lsh : ((intsA .i64 A.shape).length : Int) = 0 := by rw [hsh]; rfl
  refine acalls_of code_oper_Lines (by simp [fn_oper_Lines]) fun C hC => ?_
  refine walk2 ?_
  exact fin

theorem refLines_nil (A : Arr) (first : Bool) (hsh : A.shape = []) : ACalls Try.prog 17 [.agg (arrV A), .lit (.bool first)] (.tup [.sl 1 ([A.cells].map lineV), .sl 1 (intsA .i64 [])]) := by
  have lsh : ((intsA .i64 A.shape).length : Int) = 0 := by rw [hsh]; rfl
  refine acalls_of code_scrimref26_Lines (by simp [fn_scrimref26_Lines]) fun C hC => ?_
  refine walk2 ?_
  exact fin

theorem operLines_err (A : Arr) (first : Bool) (hs : 0 < A.shape.length) (hl : A.shape.length ≤ maxB) (he : (cnt (restP A.shape (axisN A.shape first))).2 ≠ 0) : ACalls Try.prog 16 [.agg (arrV A), .lit (.bool first)] (.tup [.sl 1 [], .sl 1 (intsA .i64 (restP A.shape (axisN A.shape first)))]) := by
  have c1 := along_err A.shape first hs hl he
  have lsh := intsA_len .i64 A.shape
  refine acalls_of code_oper_Lines (by simp [fn_oper_Lines]) fun C hC => ?_
  refine walk2 ?_
  exact fin

theorem refLines_err (A : Arr) (first : Bool) (hs : 0 < A.shape.length) (hl : A.shape.length ≤ maxB) (he : (cnt (restP A.shape (axisN A.shape first))).2 ≠ 0) : ACalls Try.prog 17 [.agg (arrV A), .lit (.bool first)] (.tup [.sl 1 [], .sl 1 (intsA .i64 (restP A.shape (axisN A.shape first)))]) := by
  have lsh := intsA_len .i64 A.shape
  have hx : axisN A.shape first < A.shape.length := by unfold axisN; split <;> omega
  have c0 := axis26_a A.shape first hs hl
  have c1 := refWithout_a A.shape (axisN A.shape first) hx hl
  have c2 := places_err _ he
  unfold restP at c2 ⊢
  generalize List.take (axisN A.shape first) A.shape ++ List.drop (axisN A.shape first + 1) A.shape = R at c1 c2 ⊢
  generalize axisN A.shape first = x at c0 c1
  refine acalls_of code_scrimref26_Lines (by simp [fn_scrimref26_Lines]) fun C hC => ?_
  refine walk2 ?_
  refine aw_loopB [7, 9, 10] [] (fun n : Nat => [(11, .lit (.int .i64 n))]) (fun n => []) 1 (fun n => n = 0) (fun n => 0) 0 rfl ?_
  rintro n rfl
  dsimp only [List.cons_append, List.nil_append]
  have hz : ((([] : List (List AV)).length : Nat) : Int) = 0 := rfl
  refine walk2 ?_
  exact fin

theorem operLaw_core (A : Arr) (first : Bool) (hA : arrOK A) (hg : (goodA A && decide (A.cells.length ≤ 100)) = true) (Y : List (List Cell)) (R : List Int) (hYb : Y.length ≤ 1000000) (hYc : ∀ l ∈ Y, l.length ≤ 1000000 ∧ ∀ c ∈ l, cellOK c)
    (c2 : ACalls Try.prog 16 [.agg (arrV A), .lit (.bool first)] (.tup [.sl 1 (Y.map lineV), .sl 1 (intsA .i64 R)]))
    (c3 : ACalls Try.prog 17 [.agg (arrV A), .lit (.bool first)] (.tup [.sl 1 (Y.map lineV), .sl 1 (intsA .i64 R)]))
    (c4 : ACalls Try.prog 21 [labV A.s, .sl 1 (intsA .i64 A.shape), .lit (.bool first), .sl 1 (Y.map lineV)] (.agg (arrV A)))
    (c5 : ACalls Try.prog 22 [labV A.s, .sl 1 (intsA .i64 A.shape), .lit (.bool first), .sl 1 (Y.map lineV)] (.agg (arrV A))) :
    ACalls Try.prog 3 [.agg (arrV A), .lit (.bool first)] (.lit (.bool true)) := by
  have c0 := light26_a A hA
  rw [hg] at c0
  have c1 := awake26_a
  have c6 := lines26_a Y hYb hYc
  have c7 := ints_a R R
  rw [show intsP R R = true from by simp [intsP]] at c7
  have c8 := same_a A A hA hA
  rw [sameA_refl] at c8
  refine acalls_of code_scrimlaw26_OperLines (by simp [fn_scrimlaw26_OperLines]) fun C hC => ?_
  refine walk2 ?_
  exact fin

theorem operLaw_a (A : Arr) (first : Bool) (hA : arrOK A) : ACalls Try.prog 3 [.agg (arrV A), .lit (.bool first)] (.lit (.bool true)) := by
  have hB : maxB = 1000000000 := rfl
  cases hg : (goodA A && decide (A.cells.length ≤ 100))
  · have c0 := light26_a A hA
    rw [hg] at c0
    have c1 := awake26_a
    refine acalls_of code_scrimlaw26_OperLines (by simp [fn_scrimlaw26_OperLines]) fun C hC => ?_
    refine walk2 ?_
    exact fin
  · have hg2 := hg
    rw [Bool.and_eq_true, decide_eq_true_eq] at hg2
    obtain ⟨hgood, hl100⟩ := hg2
    have hok := few_ok hA (good_few hgood)
    obtain ⟨h1, hc, _⟩ := right_shape (good_right hgood)
    obtain ⟨a1, a2, a3, a4⟩ := hok.parts
    obtain ⟨b1, b2, b3, b4⟩ := hA.parts
    have hcOK : ∀ c ∈ A.cells, cellOK c := cellsOK_mem.1 b4
    have hl6 := cnt_len h1
    have eA : A = .mk A.s A.shape A.cells := by cases A; rfl
    by_cases hs : A.shape.length = 0
    · have hsh : A.shape = [] := List.eq_nil_of_length_eq_zero hs
      have hlen : A.cells.length = 1 := by
        rw [hsh, show cnt [] = (1, 0) from rfl] at hc
        omega
      obtain ⟨c, hcell⟩ : ∃ c, A.cells = [c] := List.length_eq_one_iff.1 hlen
      have c2 := operLines_nil A first hok hsh (by omega)
      have c3 := refLines_nil A first hsh
      have c4 := operWeave_nil A.s first c
      have c5 := refWeave_nil A.s first [c]
      rw [show Arr.mk A.s [] [c] = A from by rw [← hcell, ← hsh, ← eA]] at c4 c5
      rw [hcell] at c2 c3
      refine operLaw_core A first hA hg [[c]] [] (by simp) (fun l hl => ?_) c2 c3 (by rw [hsh]; exact c4) (by rw [hsh]; exact c5)
      simp only [List.mem_singleton] at hl
      subst hl
      exact ⟨by simp, fun x hx => hcOK x (by rw [hcell]; exact hx)⟩
    · by_cases he : (cnt (restP A.shape (axisN A.shape first))).2 = 0
      · obtain ⟨s1, s2, N, L, B, hsh, hx, hrest, htk, hdr, hz, hp1, hp2, hn1, hn2, hN, bN, bL, bB, bM, bl⟩ := geo first h1 hc (by omega) he
        have ca := along_ok A.shape first L N B h1 hz he (by rw [htk]; exact hp1) (by rw [hdr]; exact hp2)
        rw [hrest] at ca
        rw [hrest] at he
        have hNL : N * L ≤ 2048 * 2048 := Nat.mul_le_mul bN bL
        have c2 := operLines_core A first hok (s1 ++ s2) N L B (by omega) ca hN (by omega) (by omega) (by omega) (by omega) (by omega) (by omega)
        have c3 := refLines_core A first hok s1 s2 N L B hx hsh h1 he hn1 hn2 hN (by omega) (by omega) (by omega)
        have c4 := operWeave_ok A.s A.shape A.cells first N L B (by omega) h1 hc (s1 ++ s2) ca hN (by omega) (by omega) (by omega) (by omega) (by omega)
        have c5 := refWeave_ok A.s A.shape A.cells first s1 s2 N L B hx hsh h1 he hn1 hn2 hN (by omega) (by omega)
        rw [← eA] at c4 c5
        refine operLaw_core A first hA hg (linesQ A.cells L B (N * B)) (s1 ++ s2) (by rw [linesQ_len]; omega) (fun l hl => ?_) c2 c3 c4 c5
        simp only [linesQ, List.mem_map] at hl
        obtain ⟨q, _, rfl⟩ := hl
        exact ⟨by rw [lineAt_len]; omega, lineAt_mem hcOK cellOK_D⟩
      · have h0 := cnt_err_zero first h1 (by omega) he
        have hcell : A.cells = [] := List.eq_nil_of_length_eq_zero (by omega)
        have c2 := operLines_err A first (by omega) (by omega) he
        have c3 := refLines_err A first (by omega) (by omega) he
        have c4 := operWeave_zero A.s A.shape first [] (by omega) h1 h0 he
        have c5 := refWeave_zero A.s A.shape first [] (by omega) h1 h0
        rw [show Arr.mk A.s A.shape [] = A from by rw [← hcell, ← eA]] at c4 c5
        exact operLaw_core A first hA hg [] (restP A.shape (axisN A.shape first)) (by simp) (fun l hl => by simp at hl) c2 c3 c4 c5
end Go.Proofs.Ytfnilbkahkbljaa
