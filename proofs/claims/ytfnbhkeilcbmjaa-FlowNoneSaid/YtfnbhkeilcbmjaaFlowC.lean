/- Flow: what the document's ports do. -/
import Derived.Test.YtfnbhkeilcbmjaaFlowB
namespace Go.Proofs.Ytfnbhkeilcbmjaa
set_option linter.unusedVariables false
open Go.RowKit

set_option maxRecDepth 10000 in
set_option maxHeartbeats 4000000 in
theorem r8CoverT_a (l : Nat) (hl : l < 18446744073709551616) : ∀ (A : Arr), okA A → ACalls Try.prog 69 [.agg (arrV A), labV l, .lit (.bool true)] (.agg (arrV (relabA (fun _ => l) A)))
  | A, hA => by
    have hB : maxB = 1000000000 := rfl
    have lcs := cells_len A
    obtain ⟨a1, a2, a3, a4⟩ := hA.parts
    refine acalls_of code_scrimref08_Cover (by simp [fn_scrimref08_Cover]) fun C hC => ?_
    rw [relabA_eq]
    refine walk3 ?_
    refine aw_nilF 2 2 71 7 rfl rfl rfl rfl ?_
    refine aw_loopB [1, 2, 3, 6, 7] [0, 1] (fun k : Nat => [(8, i64V k)]) (fun k => [(2, some ⟨false, false, 43, 3, [[labV ((fun _ => l) A.s), .sl 1 (intsA .i64 A.shape), .own 3]]⟩), (3, some ⟨true, false, 71, 7, mapK (relV (fun _ => l)) A.cells k⟩)]) 4
      (fun k => k ≤ A.cells.length) (fun k => A.cells.length - k) 0 (Nat.zero_le _) ?_
    intro k hk
    dsimp only [List.cons_append, List.nil_append]
    by_cases hlt : k < A.cells.length
    · obtain ⟨c, hc⟩ : ∃ c, A.cells[k]? = some c := ⟨_, List.getElem?_eq_getElem hlt⟩
      have hck := cell_at hc
      have hcm := List.mem_of_getElem? hc
      have hcok := okCs_mem.1 a4 c hcm
      obtain ⟨b1, b2, b3, b4, b5⟩ := hcok.parts
      have lin := ins_len c
      have hrs := mapK_step (relV (fun _ => l)) A.cells k c hc
      have hrl := mapK_len (relV (fun _ => l)) A.cells k
      have ht : SizeOf.sizeOf c < SizeOf.sizeOf A := Nat.lt_trans (cell_size hcm) A.size
      refine walk3 ?_
      refine aw_nil 10 43 3 rfl ?_
      refine aw_loopB [1, 2, 3, 6, 7, 8, 9] [0, 1, 2, 3, 4] (fun j : Nat => [(11, i64V j), (10, .own 5)]) (fun j => [(5, some ⟨true, false, 43, 3, mapK (relW (fun _ => l)) c.ins j⟩)]) 6
        (fun j => j ≤ c.ins.length) (fun j => c.ins.length - j) 0 (Nat.zero_le _) ?_
      intro j hj
      dsimp only [List.cons_append, List.nil_append]
      by_cases hlj : j < c.ins.length
      · obtain ⟨x, hx⟩ : ∃ x, c.ins[j]? = some x := ⟨_, List.getElem?_eq_getElem hlj⟩
        have hxk := arr_at hx
        have hxm := List.mem_of_getElem? hx
        have hxok := okAs_mem.1 b5 x hxm
        have ht2 : SizeOf.sizeOf x < SizeOf.sizeOf A := Nat.lt_trans (arr_size hxm) (Nat.lt_trans c.size ht)
        have c4 := r8CoverT_a l hl x hxok
        have hms := mapK_step (relW (fun _ => l)) c.ins j x hx
        have hml := mapK_len (relW (fun _ => l)) c.ins j
        refine walk3 ?_
        exact ⟨j + 1, by omega, by omega, wkR hC.m [(5, 7)] (by rw [← hms]; rfl)⟩
      · have hme := mapK_end (relW (fun _ => l)) c.ins j hlj
        rw [hme, arrR_relab]
        refine aw_freeze 5 rfl ?_
        refine walk3 ?_
        exact ⟨k + 1, by omega, by omega, wkR hC.m [(3, 7)] (by rw [← hrs]; rfl)⟩
    · have hre := mapK_end (relV (fun _ => l)) A.cells k hlt
      rw [hre, cellR_relab]
      refine walk3 ?_
      exact ⟨_, _, rfl, rfl, Sub.refl _⟩
  termination_by A => SizeOf.sizeOf A

set_option maxRecDepth 10000 in
set_option maxHeartbeats 4000000 in
theorem r8CoverF_a (l : Nat) (hl : l < 18446744073709551616) : ∀ (A : Arr), okA A → ACalls Try.prog 69 [.agg (arrV A), labV l, .lit (.bool false)] (.agg (arrV (relabA (covG l) A)))
  | A, hA => by
    have hB : maxB = 1000000000 := rfl
    have lcs := cells_len A
    obtain ⟨a1, a2, a3, a4⟩ := hA.parts
    refine acalls_of code_scrimref08_Cover (by simp [fn_scrimref08_Cover]) fun C hC => ?_
    have c1 := rjoin_a A.s l a1 hl
    rw [relabA_eq]
    refine walk3 ?_
    refine aw_nilF 2 2 71 7 rfl rfl rfl rfl ?_
    refine aw_loopB [1, 2, 3, 6, 7] [0, 1] (fun k : Nat => [(8, i64V k)]) (fun k => [(2, some ⟨false, false, 43, 3, [[labV ((covG l) A.s), .sl 1 (intsA .i64 A.shape), .own 3]]⟩), (3, some ⟨true, false, 71, 7, mapK (relV (covG l)) A.cells k⟩)]) 4
      (fun k => k ≤ A.cells.length) (fun k => A.cells.length - k) 0 (Nat.zero_le _) ?_
    intro k hk
    dsimp only [List.cons_append, List.nil_append]
    by_cases hlt : k < A.cells.length
    · obtain ⟨c, hc⟩ : ∃ c, A.cells[k]? = some c := ⟨_, List.getElem?_eq_getElem hlt⟩
      have hck := cell_at hc
      have hcm := List.mem_of_getElem? hc
      have hcok := okCs_mem.1 a4 c hcm
      obtain ⟨b1, b2, b3, b4, b5⟩ := hcok.parts
      have lin := ins_len c
      have c3 := rjoin_a c.l l b1 hl
      have hrs := mapK_step (relV (covG l)) A.cells k c hc
      have hrl := mapK_len (relV (covG l)) A.cells k
      have ht : SizeOf.sizeOf c < SizeOf.sizeOf A := Nat.lt_trans (cell_size hcm) A.size
      refine walk3 ?_
      refine aw_nil 10 43 3 rfl ?_
      refine aw_loopB [1, 2, 3, 6, 7, 8, 9] [0, 1, 2, 3, 4] (fun j : Nat => [(11, i64V j), (10, .own 5)]) (fun j => [(5, some ⟨true, false, 43, 3, mapK (relW (covG l)) c.ins j⟩)]) 6
        (fun j => j ≤ c.ins.length) (fun j => c.ins.length - j) 0 (Nat.zero_le _) ?_
      intro j hj
      dsimp only [List.cons_append, List.nil_append]
      by_cases hlj : j < c.ins.length
      · obtain ⟨x, hx⟩ : ∃ x, c.ins[j]? = some x := ⟨_, List.getElem?_eq_getElem hlj⟩
        have hxk := arr_at hx
        have hxm := List.mem_of_getElem? hx
        have hxok := okAs_mem.1 b5 x hxm
        have ht2 : SizeOf.sizeOf x < SizeOf.sizeOf A := Nat.lt_trans (arr_size hxm) (Nat.lt_trans c.size ht)
        have c4 := r8CoverF_a l hl x hxok
        have hms := mapK_step (relW (covG l)) c.ins j x hx
        have hml := mapK_len (relW (covG l)) c.ins j
        refine walk3 ?_
        exact ⟨j + 1, by omega, by omega, wkR hC.m [(5, 7)] (by rw [← hms]; rfl)⟩
      · have hme := mapK_end (relW (covG l)) c.ins j hlj
        rw [hme, arrR_relab]
        refine aw_freeze 5 rfl ?_
        refine walk3 ?_
        exact ⟨k + 1, by omega, by omega, wkR hC.m [(3, 7)] (by rw [← hrs]; rfl)⟩
    · have hre := mapK_end (relV (covG l)) A.cells k hlt
      rw [hre, cellR_relab]
      refine walk3 ?_
      exact ⟨_, _, rfl, rfl, Sub.refl _⟩
  termination_by A => SizeOf.sizeOf A

set_option maxRecDepth 10000 in
theorem r8Erase_a (A : Arr) (hA : okA A) : ACalls Try.prog 59 [.agg (arrV A)] (.agg (arrV (eraA A))) := by
  have c1 : ACalls Try.prog 69 [.agg (arrV A), labV 0, .lit (.bool true)] (.agg (arrV (eraA A))) := r8CoverT_a 0 (by omega) A hA
  refine acalls_of code_scrimref08_Erase (by simp [fn_scrimref08_Erase]) fun C hC => ?_
  refine walk3 ?_
  exact fin
end Go.Proofs.Ytfnbhkeilcbmjaa
