/- array.Erase. -/
import Derived.Test.YtfnbhkeilcbmjaaRelabP
import Derived.Test.YtfnbhkeilcbmjaaCodeF
namespace Go.Proofs.Ytfnbhkeilcbmjaa
set_option linter.unusedVariables false
open Go.RowKit
theorem Erase1_a (a : Nat) (ha : a < 18446744073709551616) : ACalls Try.prog 60 [labV a] (labV 0) := by
  refine acalls_of code_array_Erase_1 (by simp [fn_array_Erase_1]) fun C hC => ?_
  refine walk2 ?_
  exact ⟨_, _, rfl, rfl, Sub.refl _⟩

set_option maxHeartbeats 4000000 in
theorem relabE_a : ∀ (A : Arr), okA A → ACalls Try.prog 52 [.agg (arrV A), .fn 60 [] []] (.agg (arrV (relabA (fun _ => 0) A)))
  | A, hA => by
    have hB : maxB = 1000000000 := rfl
    have lcs := cells_len A
    have lsh := intsA_len .i64 A.shape
    obtain ⟨a1, a2, a3, a4⟩ := hA.parts
    refine acalls_of code_array_relabel (by simp [fn_array_relabel]) fun C hC => ?_
    have c1 := Erase1_a A.s a1
    have c2 := cloneInt_a (intsA .i64 A.shape) (by omega)
    rw [relabA_eq]
    refine walk2 ?_
    refine aw_loopB [1, 2, 4, 5, 24, 25] [0, 1, 3] (fun k : Nat => [(26, .lit (.int .i64 k))]) (fun k => [(2, some ⟨true, false, 71, 7, rowK (relV (fun _ => 0)) cellZ A.cells k⟩)]) 4
      (fun k => k ≤ A.cells.length) (fun k => A.cells.length - k) 0 (Nat.zero_le _) ?_ (hh := by rw [← rowK_zero]; rfl)
    intro k hk
    dsimp only [List.cons_append, List.nil_append]
    by_cases hlt : k < A.cells.length
    · obtain ⟨c, hc⟩ : ∃ c, A.cells[k]? = some c := ⟨_, List.getElem?_eq_getElem hlt⟩
      have hck := cell_at hc
      have hcm := List.mem_of_getElem? hc
      have hcok := okCs_mem.1 a4 c hcm
      obtain ⟨b1, b2, b3, b4, b5⟩ := hcok.parts
      have lin := ins_len c
      have c3 := Erase1_a c.l b1
      have hrl := rowK_len (relV (fun _ => 0)) cellZ A.cells k hk
      have hrg := rowK_get (relV (fun _ => 0)) cellZ A.cells k hlt
      have hrs := rowK_set (relV (fun _ => 0)) cellZ A.cells k c hc
      have ht : SizeOf.sizeOf c < SizeOf.sizeOf A := Nat.lt_trans (cell_size hcm) A.size
      refine walk2 ?_
      refine aw_nil 8 43 3 rfl ?_
      refine aw_loopB [1, 2, 4, 5, 24, 25, 26, 6, 7, 37, 38] [0, 1, 2, 3, 4] (fun j : Nat => [(39, .lit (.int .i64 j)), (8, .own 5)]) (fun j => [(5, some ⟨true, false, 43, 3, mapK (relW (fun _ => 0)) c.ins j⟩)]) 6
        (fun j => j ≤ c.ins.length) (fun j => c.ins.length - j) 0 (Nat.zero_le _) ?_
      intro j hj
      dsimp only [List.cons_append, List.nil_append]
      by_cases hlj : j < c.ins.length
      · obtain ⟨x, hx⟩ : ∃ x, c.ins[j]? = some x := ⟨_, List.getElem?_eq_getElem hlj⟩
        have hxk := arr_at hx
        have hxm := List.mem_of_getElem? hx
        have hxok := okAs_mem.1 b5 x hxm
        have ht2 : SizeOf.sizeOf x < SizeOf.sizeOf A := Nat.lt_trans (arr_size hxm) (Nat.lt_trans c.size ht)
        have c4 := relabE_a x hxok
        have hms := mapK_step (relW (fun _ => 0)) c.ins j x hx
        have hml := mapK_len (relW (fun _ => 0)) c.ins j
        refine walk2 ?_
        exact ⟨j + 1, by omega, by omega, wkR hC.m [(5, 8)] (by rw [← hms]; rfl)⟩
      · have hme := mapK_end (relW (fun _ => 0)) c.ins j hlj
        rw [hme, arrR_relab]
        refine aw_freeze 5 rfl ?_
        refine walk2 ?_
        exact ⟨k + 1, by omega, by omega, wkR hC.m [] (by rw [← hrs]; rfl)⟩
    · have hre := rowK_end (relV (fun _ => 0)) cellZ A.cells k hlt
      rw [hre, cellR_relab]
      refine walk2 ?_
      exact ⟨_, _, rfl, rfl, Sub.refl _⟩
  termination_by A => SizeOf.sizeOf A
theorem erase_a (A : Arr) (hA : okA A) : ACalls Try.prog 44 [.agg (arrV A)] (.agg (arrV (relabA (fun _ => 0) A))) := by
  have c1 := relabE_a A hA
  refine acalls_of code_array_Erase (by simp [fn_array_Erase]) fun C hC => ?_
  refine walk2 ?_
  exact ⟨_, _, rfl, rfl, Sub.refl _⟩
end Go.Proofs.Ytfnbhkeilcbmjaa
