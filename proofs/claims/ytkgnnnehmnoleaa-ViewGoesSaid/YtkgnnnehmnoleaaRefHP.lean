/- scrimref09.Hide and scrimref09.Cell. -/
import Derived.Test.YtkgnnnehmnoleaaHideP
namespace Go.Proofs.Ytkgnnnehmnoleaa
set_option linter.unusedVariables false
open Go.RowKit

abbrev stRA (o : Nat) (A : Arr) (es : List (List AV)) (k : Nat) : St := ⟨[(1, labV o), (2, .optr 0 0 0), (4, .optr 1 0 0), (5, .optr 2 0 0), (6, .lit (.int .i64 k))],
  [(0, some ⟨false, false, 26, 3, [arrV A]⟩), (1, some ⟨false, false, 26, 3, [arrZ]⟩), (2, some ⟨false, false, 26, 3, [[labV A.s, .sl 1 (intsA .i64 A.shape), .own 3]]⟩), (3, some ⟨true, false, 32, 7, es⟩)], 4⟩
abbrev stRC (o : Nat) (A : Cell) (es : List (List AV)) (k : Nat) : St := ⟨[(1, labV o), (2, .optr 0 0 0), (4, .optr 1 0 0), (5, .own 2), (6, .lit (.int .i64 k))],
  [(0, some ⟨false, false, 32, 7, [cellV A]⟩), (1, some ⟨false, false, 32, 7, [cellZ]⟩), (2, some ⟨true, false, 26, 3, es⟩)], 3⟩

mutual
theorem refHide_a (o : Nat) (ho : o < 18446744073709551616) : ∀ (A : Arr), okA A → ACalls Try.prog 12 [.agg (arrV A), labV o] (.agg (arrV (hideA o A)))
  | A, hA => by
    have hB : maxB = 1000000000 := rfl
    have lcs := cells_len A
    have lsh := intsA_len .i64 A.shape
    obtain ⟨a1, a2, a3, a4⟩ := hA.parts
    refine acalls_of code_scrimref09_Hide (by simp [fn_scrimref09_Hide]) fun C hC => ?_
    refine walk ?_
    refine aw_reg (rrun ?_)
    refine r_call (rflows_a A.s o a1 ho) ?_
    cases h1 : flowsN A.s o
    · rw [hideA_no h1]
      refine rrun ?_
      refine rg_nil ⟨rfl, ?_⟩
      refine walk ?_
      exact ⟨_, _, rfl, rfl, sub_secretA⟩
    · rw [hideA_yes h1]
      refine rrun ?_
      refine rg_nil ⟨rfl, ?_⟩
      refine walk ?_
      refine aw_loop (X := Nat) (fun k => match k with
        | 0 => ⟨[(1, labV o), (2, .optr 0 0 0), (4, .optr 1 0 0), (5, .optr 2 0 0), (6, .lit (.int .i64 0))],
          [(0, some ⟨false, false, 26, 3, [arrV A]⟩), (1, some ⟨false, false, 26, 3, [arrZ]⟩), (2, some ⟨false, false, 26, 3, [[labV A.s, .sl 1 (intsA .i64 A.shape), .lit (.slice none 0 0)]]⟩)], 3⟩
        | k + 1 => stRA o A (mapK (fun c => cellV (hideC o c)) A.cells (k + 1)) (k + 1))
        (fun k => k ≤ A.cells.length) (fun k => A.cells.length - k) 0 (wk hC [(0, 0), (1, 1), (2, 2)] [1, 2, 4, 5, 6] 3) (Nat.zero_le _) ?_
      intro k hk
      by_cases hlt : k < A.cells.length
      · obtain ⟨c, hc⟩ : ∃ c, A.cells[k]? = some c := ⟨_, List.getElem?_eq_getElem hlt⟩
        have hck := cell_at hc
        have hcm := List.mem_of_getElem? hc
        have hcok := okCs_mem.1 a4 c hcm
        have ht : SizeOf.sizeOf c < SizeOf.sizeOf A := Nat.lt_trans (cell_size hcm) A.size
        cases k with
        | zero =>
          have hms := mapK_one (fun c => cellV (hideC o c)) A.cells c hc
          refine walk ?_
          refine aw_reg (rrun ?_)
          refine r_call (refCell_a o ho c hcok) (rrun ?_)
          refine r_rowlit ?_
          refine r_appendNX [3] ?_ ?_
          · simp [chunk]
          refine rrun ?_
          refine rg_nil ⟨rfl, ?_⟩
          refine walk ?_
          exact ⟨1, by omega, by omega, wk hC [(0, 0), (1, 1), (2, 2), (4, 3)] [1, 2, 4, 5, 6] 4 (congrArg (fun m => stRA o A m 1) hms)⟩
        | succ k =>
          have hms := mapK_step (fun c => cellV (hideC o c)) A.cells (k + 1) c hc
          have hml := mapK_len (fun c => cellV (hideC o c)) A.cells (k + 1)
          refine walk ?_
          refine aw_reg (rrun ?_)
          refine r_call (refCell_a o ho c hcok) (rrun ?_)
          refine r_rowlit ?_
          refine r_appendX [4] ?_ ?_
          · simp only [chunk, List.length_cons, List.length_nil]; omega
          refine rrun ?_
          refine rg_nil ⟨rfl, ?_⟩
          refine walk ?_
          exact ⟨k + 2, by omega, by omega, wk hC [(0, 0), (1, 1), (2, 2), (5, 3)] [1, 2, 4, 5, 6] 4 (congrArg (fun m => stRA o A m (k + 2)) hms)⟩
      · cases k with
        | zero =>
          have he : A.cells = [] := List.eq_nil_of_length_eq_zero (by omega)
          refine walk ?_
          refine ⟨_, _, rfl, rfl, ?_⟩
          rw [he]
          exact Sub.agg (SubL.cons (Sub.refl _) (SubL.cons (Sub.refl _) (SubL.cons (Sub.nil _) SubL.nil)))
        | succ k =>
          have hme := mapK_end (fun c => cellV (hideC o c)) A.cells (k + 1) hlt
          simp only
          rw [hme, cellR_hide]
          refine walk ?_
          exact ⟨_, _, rfl, rfl, Sub.refl _⟩
  termination_by A => SizeOf.sizeOf A
theorem refCell_a (o : Nat) (ho : o < 18446744073709551616) : ∀ (A : Cell), okC A → ACalls Try.prog 15 [.agg (cellV A), labV o] (.agg (cellV (hideC o A)))
  | A, hA => by
    have hB : maxB = 1000000000 := rfl
    have lin := ins_len A
    obtain ⟨a1, a2, a3, a4, a5⟩ := hA.parts
    refine acalls_of code_scrimref09_Cell (by simp [fn_scrimref09_Cell]) fun C hC => ?_
    refine walk ?_
    refine aw_reg (rrun ?_)
    refine r_call (rflows_a A.l o a1 ho) ?_
    cases h1 : flowsN A.l o
    · rw [hideC_no h1]
      refine rrun ?_
      refine rg_nil ⟨rfl, ?_⟩
      refine walk ?_
      exact ⟨_, _, rfl, rfl, sub_secretC⟩
    · rw [hideC_yes h1]
      refine rrun ?_
      refine rg_nil ⟨rfl, ?_⟩
      refine walk ?_
      refine aw_loop (X := Nat) (fun k => match k with
        | 0 => ⟨[(1, labV o), (2, .optr 0 0 0), (4, .optr 1 0 0), (5, .lit (.slice none 0 0)), (6, .lit (.int .i64 0))],
          [(0, some ⟨false, false, 32, 7, [cellV A]⟩), (1, some ⟨false, false, 32, 7, [cellZ]⟩)], 2⟩
        | k + 1 => stRC o A (mapK (fun a => arrV (hideA o a)) A.ins (k + 1)) (k + 1))
        (fun k => k ≤ A.ins.length) (fun k => A.ins.length - k) 0 (wk hC [(0, 0), (1, 1)] [1, 2, 4, 5, 6] 2) (Nat.zero_le _) ?_
      intro k hk
      by_cases hlt : k < A.ins.length
      · obtain ⟨c, hc⟩ : ∃ c, A.ins[k]? = some c := ⟨_, List.getElem?_eq_getElem hlt⟩
        have hck := arr_at hc
        have hcm := List.mem_of_getElem? hc
        have hcok := okAs_mem.1 a5 c hcm
        have ht : SizeOf.sizeOf c < SizeOf.sizeOf A := Nat.lt_trans (arr_size hcm) A.size
        cases k with
        | zero =>
          have hms := mapK_one (fun a => arrV (hideA o a)) A.ins c hc
          refine walk ?_
          refine aw_reg (rrun ?_)
          refine r_call (refHide_a o ho c hcok) (rrun ?_)
          refine r_rowlit ?_
          refine r_appendNX [2] ?_ ?_
          · simp [chunk]
          refine rrun ?_
          refine rg_nil ⟨rfl, ?_⟩
          refine walk ?_
          exact ⟨1, by omega, by omega, wk hC [(0, 0), (1, 1), (3, 2)] [1, 2, 4, 5, 6] 3 (congrArg (fun m => stRC o A m 1) hms)⟩
        | succ k =>
          have hms := mapK_step (fun a => arrV (hideA o a)) A.ins (k + 1) c hc
          have hml := mapK_len (fun a => arrV (hideA o a)) A.ins (k + 1)
          refine walk ?_
          refine aw_reg (rrun ?_)
          refine r_call (refHide_a o ho c hcok) (rrun ?_)
          refine r_rowlit ?_
          refine r_appendX [3] ?_ ?_
          · simp only [chunk, List.length_cons, List.length_nil]; omega
          refine rrun ?_
          refine rg_nil ⟨rfl, ?_⟩
          refine walk ?_
          exact ⟨k + 2, by omega, by omega, wk hC [(0, 0), (1, 1), (4, 2)] [1, 2, 4, 5, 6] 3 (congrArg (fun m => stRC o A m (k + 2)) hms)⟩
      · cases k with
        | zero =>
          have he : A.ins = [] := List.eq_nil_of_length_eq_zero (by omega)
          refine walk ?_
          refine ⟨_, _, rfl, rfl, ?_⟩
          rw [he]
          exact Sub.agg (SubL.cons (Sub.refl _) (SubL.cons (Sub.refl _) (SubL.cons (Sub.refl _) (SubL.cons (Sub.refl _) (SubL.cons (Sub.refl _) (SubL.cons (Sub.refl _) (SubL.cons (Sub.nil _) SubL.nil)))))))
        | succ k =>
          have hme := mapK_end (fun a => arrV (hideA o a)) A.ins (k + 1) hlt
          simp only
          rw [hme, arrR_hide]
          refine walk ?_
          exact ⟨_, _, rfl, rfl, Sub.refl _⟩
  termination_by A => SizeOf.sizeOf A
end
end Go.Proofs.Ytkgnnnehmnoleaa
