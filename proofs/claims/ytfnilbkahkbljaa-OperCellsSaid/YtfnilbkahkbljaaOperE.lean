/- Parts of an array put together, and the law OperCells; slices.Concat's contract is a hypothesis here. -/
import Derived.Test.YtfnilbkahkbljaaOperD
import Derived.Test.YtfnilbkahkbljaaLabA
import Derived.Test.YtfnilbkahkbljaaCodeE
import Derived.Test.YtfnilbkahkbljaaAbsZ
namespace Go.Proofs.Ytfnilbkahkbljaa
set_option linter.unusedVariables false
open Go.RowKit

theorem parts26_a (X : List Arr) (hb : X.length ≤ 1000000) (hX : ∀ a ∈ X, arrOK a) : ACalls Try.prog 31 [.sl 3 (X.map arrR), .sl 3 (X.map arrR)] (.lit (.bool true)) := by
  have lx : ((X.map arrR).length : Int) = X.length := by simp
  refine acalls_of code_scrimlaw26_parts (by simp [fn_scrimlaw26_parts]) fun C hC => ?_
  refine walk2 ?_
  refine aw_loopB [0, 1] [] (fun i : Nat => [(5, .lit (.int .i64 i))]) (fun _ => []) 0 (fun i => i ≤ X.length) (fun i => X.length - i) 0 (Nat.zero_le _) ?_
  rintro i hi
  dsimp only [List.cons_append, List.nil_append]
  by_cases hil : i < X.length
  · obtain ⟨a, ha⟩ : ∃ a, X[i]? = some a := ⟨_, List.getElem?_eq_getElem hil⟩
    have hav : (X.map arrR)[((i : Nat) : Int).toNat]? = some (arrV a) := by rw [Int.toNat_natCast]; exact arr_at ha
    have hao := hX a (List.mem_of_getElem? ha)
    have c1 := same_a a a hao hao
    rw [sameA_refl] at c1
    refine walk2 ?_
    exact ⟨i + 1, by omega, by omega, wkR hC.m []⟩
  · refine walk2 ?_
    exact fin

theorem assemble_nil (s : Nat) (F : List Int) (cc : ACalls Try.prog 80 [.sl 1 [[.sl 1 (intsA .i64 F)], [.sl 1 []]]] (.sl 1 (intsA .i64 F))) :
    ∃ r e, ACalls Try.prog 32 [labV s, .sl 1 (intsA .i64 F), .sl 3 []] (.tup [.agg (arrV r), .lit (.int .i64 e)]) := by
  have c1 := count_a F
  have hle := cnt_le F
  have hz : ((([] : List (List AV)).length : Nat) : Int) = 0 := rfl
  by_cases h : (cnt F).2 = 0
  · rw [h] at c1
    generalize (cnt F).1 = n at c1 hle
    refine ⟨.mk s F [], 0, acalls_of code_oper_Assemble (by simp [fn_oper_Assemble]) fun C hC => ?_⟩
    refine walk2 ?_
    refine aw_nilS 8 1 rfl ?_
    refine aw_loopB [0, 1, 2, 6, 8, 24, 25] [0] (fun i : Nat => [(26, .lit (.int .i64 i))]) (fun _ => []) 1 (fun i => i = 0) (fun i => 0) 0 rfl ?_
    rintro i rfl
    dsimp only [List.cons_append, List.nil_append]
    refine walk2 ?_
    refine aw_loopB [6, 14, 62, 63] [0, 2, 3] (fun i : Nat => [(64, .lit (.int .i64 i))]) (fun _ => []) 4 (fun i => i = 0) (fun i => 0) 0 rfl ?_
    rintro i rfl
    dsimp only [List.cons_append, List.nil_append]
    refine walk2 ?_
    exact fin
  · generalize (cnt F).1 = n at c1 hle
    generalize (cnt F).2 = e at c1 h
    refine ⟨.mk 0 [] [], e, acalls_of code_oper_Assemble (by simp [fn_oper_Assemble]) fun C hC => ?_⟩
    refine walk2 ?_
    refine aw_nilS 8 1 rfl ?_
    refine aw_loopB [0, 1, 2, 6, 8, 24, 25] [0] (fun i : Nat => [(26, .lit (.int .i64 i))]) (fun _ => []) 1 (fun i => i = 0) (fun i => 0) 0 rfl ?_
    rintro i rfl
    dsimp only [List.cons_append, List.nil_append]
    refine walk2 ?_
    exact fin

set_option maxHeartbeats 1000000 in
theorem assemble_ok (A : Arr) (hA : okA A) (F S : List Int) (P Q : Nat) (hP : 0 < P) (hPb : P ≤ 5000) (hsh : A.shape = F ++ S) (h0 : (cnt A.shape).2 = 0) (hc : (cnt A.shape).1 = A.cells.length) (hPQ : P * Q = A.cells.length) (X : List Arr) (hX : X.length = P)
    (hXat : ∀ i, i < P → X[i]? = some (.mk A.s S ((A.cells.drop (i * Q)).take Q)))
    (cc : ACalls Try.prog 80 [.sl 1 [[.sl 1 (intsA .i64 F)], [.sl 1 (intsA .i64 S)]]] (.sl 1 (intsA .i64 (F ++ S)))) :
    ACalls Try.prog 32 [labV A.s, .sl 1 (intsA .i64 F), .sl 3 (X.map arrR)] (.tup [.agg (arrV A), .lit (.int .i64 0)]) := by
  have hB : maxB = 1000000000 := rfl
  obtain ⟨a1, a2, a3, a4⟩ := hA.parts
  have c1 := count_a A.shape
  rw [h0, hc, hsh] at c1
  have hle := cnt_le A.shape
  rw [hc] at hle
  have c2 := equalInt_a S S
  rw [show intsP S S = true from by simp [intsP]] at c2
  have c3 := join_a A.s A.s a1 a1
  rw [Nat.or_self] at c3
  have lx : ((X.map arrR).length : Int) = P := by simp [hX]
  have ls := intsA_len .i64 S
  have hx0 : (X.map arrR)[(0 : Int).toNat]? = some [labV A.s, .sl 1 (intsA .i64 S), .sl 7 (((A.cells.drop (0 * Q)).take Q).map cellR)] := by
    have := hXat 0 hP
    show (X.map arrR)[0]? = _
    rw [List.getElem?_map, this]; simp [arrR_eq, arrV, Arr.s, Arr.shape, Arr.cells]
  have hxi : ∀ i : Nat, i < P → (X.map arrR)[((i : Nat) : Int).toNat]? = some [labV A.s, .sl 1 (intsA .i64 S), .sl 7 (((A.cells.drop (i * Q)).take Q).map cellR)] := fun i hi => by
    rw [Int.toNat_natCast, List.getElem?_map, hXat i hi]; simp [arrR_eq, arrV, Arr.s, Arr.shape, Arr.cells]
  generalize X.map arrR = XV at lx hx0 hxi ⊢
  have eA : arrV A = [labV A.s, .sl 1 (intsA .i64 (F ++ S)), .sl 7 (A.cells.map cellR)] := by rw [← hsh]; rfl
  rw [eA]
  refine acalls_of code_oper_Assemble (by simp [fn_oper_Assemble]) fun C hC => ?_
  refine walk2 ?_
  refine aw_loopB [0, 1, 2, 6, 8, 24, 25] [0] (fun i : Nat => [(26, .lit (.int .i64 i))]) (fun _ => []) 1 (fun i => i ≤ P) (fun i => P - i) 0 (Nat.zero_le _) ?_
  rintro i hi
  dsimp only [List.cons_append, List.nil_append]
  by_cases hil : i < P
  · have hxk := hxi i hil
    clear hxi
    refine walk2 ?_
    exact ⟨i + 1, by omega, by omega, wkR hC.m []⟩
  · refine walk2 ?_
    refine aw_loopB [6, 14, 62, 63] [0] (fun i : Nat => [(64, .lit (.int .i64 i))]) (fun i => [(2, some ⟨true, false, 76, 7, (A.cells.take (i * Q)).map cellR⟩), (3, some ⟨false, false, 26, 3, [[labV A.s, .sl 1 (intsA .i64 (F ++ S)), .own 2]]⟩)]) 4
      (fun i => i ≤ P) (fun i => P - i) 0 (Nat.zero_le _) ?_ (hh := by rw [Nat.zero_mul]; rfl)
    rintro j hj
    dsimp only [List.cons_append, List.nil_append]
    by_cases hjl : j < P
    · have hxk := hxi j hjl
      have hle2 : (j + 1) * Q ≤ A.cells.length := by rw [← hPQ]; exact Nat.mul_le_mul_right _ hjl
      have hms : (A.cells.take (j * Q)).map cellR ++ ((A.cells.drop (j * Q)).take Q).map cellR = (A.cells.take ((j + 1) * Q)).map cellR := by
        rw [← List.map_append, Nat.succ_mul, List.take_add]
      have hlm : ((A.cells.take (j * Q)).map cellR).length ≤ A.cells.length := by rw [List.length_map, List.length_take]; omega
      have hln : (((A.cells.drop (j * Q)).take Q).map cellR).length ≤ A.cells.length := by rw [List.length_map, List.length_take, List.length_drop]; omega
      generalize ((A.cells.drop (j * Q)).take Q).map cellR = cs at hxk hms hln
      generalize (A.cells.take (j * Q)).map cellR = ds at hms hlm ⊢
      clear hxi
      refine walk2 ?_
      exact ⟨j + 1, by omega, by omega, wkR hC.m [(2, 5)] (by rw [← hms]; rfl)⟩
    · rw [show A.cells.take (j * Q) = A.cells from List.take_of_length_le (by rw [← hPQ]; exact Nat.mul_le_mul_right _ (by omega))]
      refine walk2 ?_
      exact fin
end Go.Proofs.Ytfnilbkahkbljaa
namespace Go.Proofs.Ytfnilbkahkbljaa
set_option linter.unusedVariables false
open Go.RowKit

def ConcatOK : Prop := ∀ F S : List Int, F.length ≤ 6 → S.length ≤ 6 → ACalls Try.prog 80 [.sl 1 [[.sl 1 (intsA .i64 F)], [.sl 1 (intsA .i64 S)]]] (.sl 1 (intsA .i64 (F ++ S)))

theorem operCells_core (A : Arr) (k : Int) (hA : arrOK A) (hg : (goodA A && decide (A.cells.length ≤ 100)) = true) (X : List Arr) (F : List Int) (hXb : X.length ≤ 1000000) (hXo : ∀ a ∈ X, arrOK a)
    (c2 : ACalls Try.prog 29 [.agg (arrV A), .lit (.int .i64 k)] (.tup [.sl 3 (X.map arrR), .sl 1 (intsA .i64 F)]))
    (c3 : ACalls Try.prog 30 [.agg (arrV A), .lit (.int .i64 k)] (.tup [.sl 3 (X.map arrR), .sl 1 (intsA .i64 F)]))
    (r : Arr) (e : Int) (c4 : ACalls Try.prog 32 [labV A.s, .sl 1 (intsA .i64 F), .sl 3 (X.map arrR)] (.tup [.agg (arrV r), .lit (.int .i64 e)])) (hre : X = [] ∨ (0 < X.length ∧ r = A ∧ e = 0)) :
    ACalls Try.prog 6 [.agg (arrV A), .lit (.int .i64 k)] (.lit (.bool true)) := by
  have c0 := light26_a A hA
  rw [hg] at c0
  have c1 := awake26_a
  have c6 := parts26_a X hXb hXo
  have c7 := ints_a F F
  rw [show intsP F F = true from by simp [intsP]] at c7
  have c8 := same_a A A hA hA
  rw [sameA_refl] at c8
  have lx : ((X.map arrR).length : Int) = X.length := by simp
  rcases hre with rfl | ⟨hpos, rfl, rfl⟩
  · refine acalls_of code_scrimlaw26_OperCells (by simp [fn_scrimlaw26_OperCells]) fun C hC => ?_
    refine walk2 ?_
    exact fin
  · generalize X.map arrR = XV at c2 c3 c4 c6 lx
    refine acalls_of code_scrimlaw26_OperCells (by simp [fn_scrimlaw26_OperCells]) fun C hC => ?_
    refine walk2 ?_
    exact fin

theorem operCellsLaw_a (hcat : ConcatOK) (A : Arr) (k : Int) (hA : arrOK A) : ACalls Try.prog 6 [.agg (arrV A), .lit (.int .i64 k)] (.lit (.bool true)) := by
  have hB : maxB = 1000000000 := rfl
  cases hg : (goodA A && decide (A.cells.length ≤ 100))
  · have c0 := light26_a A hA
    rw [hg] at c0
    have c1 := awake26_a
    refine acalls_of code_scrimlaw26_OperCells (by simp [fn_scrimlaw26_OperCells]) fun C hC => ?_
    refine walk2 ?_
    exact fin
  · have hg2 := hg
    rw [Bool.and_eq_true, decide_eq_true_eq] at hg2
    obtain ⟨hgood, hl100⟩ := hg2
    have hok := few_ok hA (good_few hgood)
    obtain ⟨h1, hc, _⟩ := right_shape (good_right hgood)
    obtain ⟨a1, a2, a3, a4⟩ := hok.parts
    have hl6 := cnt_len h1
    have hcut := cutN_le A k
    have hF6 : (A.shape.take (cutN A k)).length ≤ 6 := by simp; omega
    have hS6 : (A.shape.drop (cutN A k)).length ≤ 6 := by simp; omega
    have hsp := List.take_append_drop (cutN A k) A.shape
    have cc0 := hcat (A.shape.take (cutN A k)) [] hF6 (by simp)
    rw [List.append_nil] at cc0
    obtain ⟨r, e, c4⟩ := assemble_nil A.s (A.shape.take (cutN A k)) cc0
    by_cases hS : (cnt (A.shape.drop (cutN A k))).2 = 0
    · by_cases hF : (cnt (A.shape.take (cutN A k))).2 = 0
      · have pF := cnt_prod hF
        have pS := cnt_prod hS
        have pA := cnt_prod h1
        have bF := cnt_le (A.shape.take (cutN A k))
        have bS := cnt_le (A.shape.drop (cutN A k))
        obtain ⟨P, hP⟩ : ∃ P : Nat, (cnt (A.shape.take (cutN A k))).1 = P := ⟨(cnt (A.shape.take (cutN A k))).1.toNat, by omega⟩
        obtain ⟨Q, hQ⟩ : ∃ Q : Nat, (cnt (A.shape.drop (cutN A k))).1 = Q := ⟨(cnt (A.shape.drop (cutN A k))).1.toNat, by omega⟩
        have hPQ : P * Q = A.cells.length := by
          have h : prodL A.shape = prodL (A.shape.take (cutN A k)) * prodL (A.shape.drop (cutN A k)) := by rw [← prodL_append, hsp]
          rw [← pA, ← pF, ← pS, hP, hQ, hc, ← Int.natCast_mul] at h
          exact (Int.ofNat_inj.1 h).symm
        have c2 := operCells_ok A k hok hF hS P Q hP hQ hPQ (by omega) (by omega) (by omega)
        have c3 := refCells_ok A k hok h1 hF hS P Q hP hQ hPQ (by omega) (by omega) (by omega)
        have hXo : ∀ a ∈ partsQ A k P Q, arrOK a := fun a ha => by
          simp only [partsQ, List.mem_map] at ha
          obtain ⟨i, _, rfl⟩ := ha
          have hA' := hA
          rw [show A = .mk A.s A.shape A.cells from by cases A; rfl] at hA'
          obtain ⟨m1, m2, m3, m4, m5⟩ := hA'
          refine ⟨m1, fun z hz => m2 z (List.mem_of_mem_drop hz), Nat.le_trans (by simp) m3, Nat.le_trans (by simp; omega) m4, cellsOK_mem.2 fun c hc => cellsOK_mem.1 m5 c (List.mem_of_mem_drop (List.mem_of_mem_take hc))⟩
        by_cases hP0 : P = 0
        · have hX0 : partsQ A k P Q = [] := by rw [hP0]; rfl
          rw [hX0] at c2 c3
          exact operCells_core A k hA hg [] _ (by simp) (fun a ha => by simp at ha) c2 c3 r e c4 (.inl rfl)
        · have c5 := assemble_ok A hok (A.shape.take (cutN A k)) (A.shape.drop (cutN A k)) P Q (by omega) (by omega) hsp.symm h1 hc hPQ (partsQ A k P Q) (partsQ_len A k P Q) (fun i hi => partsQ_at A k P Q i hi) (hcat _ _ hF6 hS6)
          exact operCells_core A k hA hg (partsQ A k P Q) _ (by rw [partsQ_len]; omega) hXo c2 c3 A 0 c5 (.inr ⟨by rw [partsQ_len]; omega, rfl, rfl⟩)
      · have c2 := operCells_err A k (by omega) (.inl hF)
        have c3 := refCells_err2 A k (by omega) hS hF
        exact operCells_core A k hA hg [] _ (by simp) (fun a ha => by simp at ha) c2 c3 r e c4 (.inl rfl)
    · have c2 := operCells_err A k (by omega) (.inr hS)
      have c3 := refCells_err1 A k (by omega) hS
      exact operCells_core A k hA hg [] _ (by simp) (fun a ha => by simp at ha) c2 c3 r e c4 (.inl rfl)
end Go.Proofs.Ytfnilbkahkbljaa
namespace Go.Proofs.Ytfnilbkahkbljaa
set_option linter.unusedVariables false
open Go.RowKit

theorem grow0_m : AMut Try.prog 125 [.lit (.slice none 0 0), .lit (.int .i64 0)] [] 0 (.lit (.slice none 0 0)) [] 0 := by
  refine amut_of code_slices_Grow_int (by simp [fn_slices_Grow_int]) fun C hC => ?_
  refine walk2 ?_
  exact fin_m []

theorem grow_m (n : Nat) (h0 : 0 < n) (h1 : n ≤ 1000) : AMut Try.prog 125 [.lit (.slice none 0 0), .lit (.int .i64 n)] [] 0 (.own 0) [(0, some ⟨true, false, 3, 1, []⟩)] 1 := by
  refine amut_of code_slices_Grow_int (by simp [fn_slices_Grow_int]) fun C hC => ?_
  have hn : (n : Int) - (((0 : Nat) : Int) - 0) = n := by omega
  refine walk2 ?_
  refine aw_reg (rrun2 ?_)
  rw [hn]
  refine r_sliceN ?_
  refine rrun2 ?_
  refine r_appendZ (n := n) h0 (by omega) ?_
  refine rrun2 ?_
  refine r_sliceO (k := 0) (Nat.zero_le _) ?_
  refine rrun2 ?_
  refine rg_nil ⟨rfl, ?_⟩
  rw [List.take_zero]
  refine walk2 ?_
  exact fin_m [(0, 1)]

theorem concat_a : ConcatOK := by
  intro F S hF hS
  have lF := intsA_len .i64 F
  have lS := intsA_len .i64 S
  have hap := intsA_app .i64 F S
  have hb1 : (0 + (intsA .i64 F).length) * 8 ≤ 140737488355328 := by omega
  have hb2 : ((intsA .i64 F).length + (intsA .i64 S).length) * 8 ≤ 140737488355328 := by omega
  have hb3 : (([] : List (List AV)).length + (intsA .i64 F).length) * 8 ≤ 140737488355328 := by simp; omega
  have hb4 : (intsA .i64 F).length * 8 ≤ 140737488355328 := by omega
  have hx0 : ([[.sl 1 (intsA .i64 F)], [.sl 1 (intsA .i64 S)]] : List (List AV))[(0 : Int).toNat]? = some [.sl 1 (intsA .i64 F)] := rfl
  have hx1 : ([[.sl 1 (intsA .i64 F)], [.sl 1 (intsA .i64 S)]] : List (List AV))[(0 + 1 : Int).toNat]? = some [.sl 1 (intsA .i64 S)] := rfl
  have hxl : (([[.sl 1 (intsA .i64 F)], [.sl 1 (intsA .i64 S)]] : List (List AV)).length : Int) = 2 := rfl
  generalize ([[.sl 1 (intsA .i64 F)], [.sl 1 (intsA .i64 S)]] : List (List AV)) = X at hx0 hx1 hxl ⊢
  by_cases h0 : (intsA .i64 F).length + (intsA .i64 S).length = 0
  · have hF0 : F = [] := List.eq_nil_of_length_eq_zero (by omega)
    have hS0 : S = [] := List.eq_nil_of_length_eq_zero (by omega)
    subst hF0; subst hS0
    have c1 : AMut Try.prog 125 [.lit (.slice none 0 0), .lit (.int .i64 (0 + ((intsA .i64 []).length : Int) + ((intsA .i64 []).length : Int)))] [] 0 (.lit (.slice none 0 0)) [] 0 := grow0_m
    refine acalls_of code_slices_Concat_int (by simp [fn_slices_Concat_int]) fun C hC => ?_
    refine walk2 ?_
    refine aw_unroll 3 ?_
    refine awr_one ?_
    refine walk2 ?_
    refine aw_reg (rrun2 ?_)
    refine r_callM [] c1 ?_
    refine rrun2 ?_
    refine rg_nil ⟨rfl, ?_⟩
    refine walk2 ?_
    refine aw_unroll 3 ?_
    refine awr_one ?_
    refine walk2 ?_
    exact fin
  · have c1 := grow_m ((intsA .i64 F).length + (intsA .i64 S).length) (by omega) (by omega)
    rw [show (((intsA .i64 F).length + (intsA .i64 S).length : Nat) : Int) = 0 + (F.length : Int) + (S.length : Int) from by omega] at c1
    refine acalls_of code_slices_Concat_int (by simp [fn_slices_Concat_int]) fun C hC => ?_
    refine walk2 ?_
    refine aw_unroll 3 ?_
    refine awr_one ?_
    refine walk2 ?_
    refine aw_reg (rrun2 ?_)
    refine r_callN [] c1 ?_
    refine rrun2 ?_
    refine rg_nil ⟨rfl, ?_⟩
    refine walk2 ?_
    refine aw_unroll 3 ?_
    refine awr_one ?_
    refine walk2 ?_
    rw [List.nil_append, ← hap]
    exact fin
end Go.Proofs.Ytfnilbkahkbljaa
