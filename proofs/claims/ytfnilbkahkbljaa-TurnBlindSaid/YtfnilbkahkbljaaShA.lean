/- Shapes: what the program's functions answer. -/
import Derived.Test.YtfnilbkahkbljaaArrG
import Derived.Test.YtfnilbkahkbljaaAbs9
import Derived.Test.YtfnilbkahkbljaaCloneP
namespace Go.Proofs.Ytfnilbkahkbljaa
set_option linter.unusedVariables false
open Go.RowKit

theorem intsA_take (k : IntKind) (s : List Int) (n : Nat) : (intsA k s).take n = intsA k (s.take n) := by simp [intsA, List.map_take]
theorem intsA_drop (k : IntKind) (s : List Int) (n : Nat) : (intsA k s).drop n = intsA k (s.drop n) := by simp [intsA, List.map_drop]
theorem intsA_app (k : IntKind) (s t : List Int) : intsA k s ++ intsA k t = intsA k (s ++ t) := by simp [intsA]
theorem intsA_set (k : IntKind) (s : List Int) (i : Nat) (z : Int) : (intsA k s).set i [.lit (.int k z)] = intsA k (s.set i z) := by simp [intsA, List.map_set]
theorem intsA_rep (k : IntKind) (n : Nat) (z : Int) : List.replicate n [AV.lit (.int k z)] = intsA k (List.replicate n z) := by simp [intsA]

theorem idxFrom_at {p : Int → Bool} {s : List Int} {k : Nat} {z : Int} (h : s[k]? = some z) : idxFrom p (s.drop k) k = if p z then (k : Int) else idxFrom p (s.drop (k + 1)) (k + 1) := by
  rw [dropA_cons h, idxFrom]

theorem indexFunc_a (f : FuncId) (p : Int → Bool) (hf : ∀ z : Int, ACalls Try.prog f [.lit (.int .i64 z)] (.lit (.bool (p z)))) (s : List Int) (hl : s.length ≤ maxB) : ACalls Try.prog 137 [.sl 1 (intsA .i64 s), .fn f [] []] (.lit (.int .i64 (idxFrom p s 0))) := by
  have hB : maxB = 1000000000 := rfl
  have ls := intsA_len .i64 s
  refine acalls_of code_slices_IndexFunc_int (by simp [fn_slices_IndexFunc_int]) fun C hC => ?_
  refine walk2 ?_
  refine aw_loopB [0, 1, 4, 6, 7] [] (fun k : Nat => [(8, .lit (.int .i64 k))]) (fun _ => []) 0 (fun k => k ≤ s.length ∧ idxFrom p s 0 = idxFrom p (s.drop k) k) (fun k => s.length - k) 0 ⟨Nat.zero_le _, rfl⟩ ?_
  rintro k ⟨hk, hE⟩
  dsimp only [List.cons_append, List.nil_append]
  generalize idxFrom p s 0 = G at hE ⊢
  by_cases hlt : k < s.length
  · obtain ⟨z, hz⟩ : ∃ z, s[k]? = some z := ⟨_, List.getElem?_eq_getElem hlt⟩
    have hzk := int_at (k := .i64) hz
    have c1 := hf z
    rw [idxFrom_at hz] at hE
    cases hp : p z
    · rw [hp] at c1 hE
      refine walk2 ?_
      exact ⟨k + 1, by omega, ⟨by omega, hE⟩, wkR hC.m []⟩
    · rw [hp] at c1 hE
      simp only [if_true] at hE
      rw [hE]
      refine walk2 ?_
      exact fin
  · rw [List.drop_eq_nil_of_le (by omega), idxFrom] at hE
    rw [hE]
    refine walk2 ?_
    exact fin

theorem index_a (x : Int) (s : List Int) (hl : s.length ≤ maxB) : ACalls Try.prog 138 [.sl 1 (intsA .i64 s), .lit (.int .i64 x)] (.lit (.int .i64 (idxFrom (fun z => x == z) s 0))) := by
  have hB : maxB = 1000000000 := rfl
  have ls := intsA_len .i64 s
  refine acalls_of code_slices_Index_int (by simp [fn_slices_Index_int]) fun C hC => ?_
  refine walk2 ?_
  refine aw_loopB [0, 1, 4, 6, 7] [] (fun k : Nat => [(8, .lit (.int .i64 k))]) (fun _ => []) 0 (fun k => k ≤ s.length ∧ idxFrom (fun z => x == z) s 0 = idxFrom (fun z => x == z) (s.drop k) k) (fun k => s.length - k) 0 ⟨Nat.zero_le _, rfl⟩ ?_
  rintro k ⟨hk, hE⟩
  dsimp only [List.cons_append, List.nil_append]
  generalize idxFrom (fun z => x == z) s 0 = G at hE ⊢
  by_cases hlt : k < s.length
  · obtain ⟨z, hz⟩ : ∃ z, s[k]? = some z := ⟨_, List.getElem?_eq_getElem hlt⟩
    have hzk := int_at (k := .i64) hz
    rw [idxFrom_at hz] at hE
    by_cases hp : x = z
    · rw [if_pos (by simpa using hp)] at hE
      rw [hE]
      refine walk2 ?_
      exact fin
    · rw [if_neg (by simpa using hp)] at hE
      refine walk2 ?_
      exact ⟨k + 1, by omega, ⟨by omega, hE⟩, wkR hC.m []⟩
  · rw [List.drop_eq_nil_of_le (by omega), idxFrom] at hE
    rw [hE]
    refine walk2 ?_
    exact fin

theorem containsFunc_a (f : FuncId) (p : Int → Bool) (hf : ∀ z : Int, ACalls Try.prog f [.lit (.int .i64 z)] (.lit (.bool (p z)))) (s : List Int) (hl : s.length ≤ maxB) : ACalls Try.prog 110 [.sl 1 (intsA .i64 s), .fn f [] []] (.lit (.bool (s.any p))) := by
  have c1 := indexFunc_a f p hf s hl
  refine acalls_of code_slices_ContainsFunc_int (by simp [fn_slices_ContainsFunc_int]) fun C hC => ?_
  rw [← idxFrom_ge p s 0]
  by_cases h : idxFrom p s 0 ≥ 0
  · rw [decide_eq_true h]
    refine walk2 ?_
    exact fin
  · rw [decide_eq_false h]
    refine walk2 ?_
    exact fin

theorem contains_a (x : Int) (s : List Int) (hl : s.length ≤ maxB) : ACalls Try.prog 113 [.sl 1 (intsA .i64 s), .lit (.int .i64 x)] (.lit (.bool (s.any fun z => x == z))) := by
  have c1 := index_a x s hl
  refine acalls_of code_slices_Contains_int (by simp [fn_slices_Contains_int]) fun C hC => ?_
  rw [← idxFrom_ge _ s 0]
  by_cases h : idxFrom (fun z => x == z) s 0 ≥ 0
  · rw [decide_eq_true h]
    refine walk2 ?_
    exact fin
  · rw [decide_eq_false h]
    refine walk2 ?_
    exact fin

theorem neg_a (z : Int) : ACalls Try.prog 111 [.lit (.int .i64 z)] (.lit (.bool (decide (z < 0)))) := by
  refine acalls_of code_shape_Count_1 (by simp [fn_shape_Count_1]) fun C hC => ?_
  by_cases h : z < 0
  · rw [decide_eq_true h]
    refine walk2 ?_
    exact fin
  · rw [decide_eq_false h]
    refine walk2 ?_
    exact fin
theorem great_a (z : Int) : ACalls Try.prog 112 [.lit (.int .i64 z)] (.lit (.bool (decide (z > 2048)))) := by
  refine acalls_of code_shape_Count_2 (by simp [fn_shape_Count_2]) fun C hC => ?_
  by_cases h : z > 2048
  · rw [decide_eq_true h]
    refine walk2 ?_
    exact fin
  · rw [decide_eq_false h]
    refine walk2 ?_
    exact fin

theorem prodC_at {s : List Int} {k : Nat} {z : Int} (h : s[k]? = some z) (o : Int) : prodC (s.drop k) o = if o * z > 2048 then 0 else prodC (s.drop (k + 1)) (o * z) := by
  rw [dropA_cons h, prodC]

theorem product_a (s : List Int) (hs : Small s) (hl : s.length ≤ maxB) : ACalls Try.prog 114 [.sl 1 (intsA .i64 s)] (.lit (.int .i64 (prodC s 1))) := by
  have hB : maxB = 1000000000 := rfl
  have ls := intsA_len .i64 s
  refine acalls_of code_shape_product (by simp [fn_shape_product]) fun C hC => ?_
  refine walk2 ?_
  refine aw_loopB [0, 2, 6, 7] [] (fun p : Nat × Int => [(3, .lit (.int .i64 p.2)), (8, .lit (.int .i64 p.1))]) (fun _ => []) 0 (fun p => p.1 ≤ s.length ∧ 0 ≤ p.2 ∧ p.2 ≤ 2048 ∧ prodC s 1 = prodC (s.drop p.1) p.2) (fun p => s.length - p.1) (0, 1) ⟨Nat.zero_le _, by simp only; omega, by simp only; omega, rfl⟩ ?_
  rintro ⟨k, o⟩ ⟨hk, o0, o1, hE⟩
  simp only at hk o0 o1 hE
  dsimp only [List.cons_append, List.nil_append]
  generalize prodC s 1 = G at hE ⊢
  by_cases hlt : k < s.length
  · obtain ⟨z, hz⟩ : ∃ z, s[k]? = some z := ⟨_, List.getElem?_eq_getElem hlt⟩
    have hzk := int_at (k := .i64) hz
    have hzr := hs z (List.mem_of_getElem? hz)
    rw [prodC_at hz] at hE
    have m0 : 0 ≤ o * z := Int.mul_nonneg o0 hzr.1
    have m1 : o * z ≤ 2048 * 2048 := Int.mul_le_mul o1 hzr.2 hzr.1 (by omega)
    have hm : -9223372036854775808 ≤ o * z ∧ o * z ≤ 9223372036854775807 := by omega
    by_cases hg : o * z > 2048
    · rw [if_pos hg] at hE
      rw [hE]
      refine walk2 ?_
      exact fin
    · rw [if_neg hg] at hE
      refine walk2 ?_
      exact ⟨(k + 1, o * z), by simp only; omega, ⟨by simp only; omega, m0, by simp only; omega, hE⟩, wkR hC.m []⟩
  · rw [List.drop_eq_nil_of_le (by omega), prodC] at hE
    rw [hE]
    refine walk2 ?_
    exact fin

theorem count_a (s : List Int) : ACalls Try.prog 62 [.sl 1 (intsA .i64 s)] (.tup [.lit (.int .i64 (cnt s).1), .lit (.int .i64 (cnt s).2)]) := by
  have hB : maxB = 1000000000 := rfl
  have ls := intsA_len .i64 s
  refine acalls_of code_shape_Count (by simp [fn_shape_Count]) fun C hC => ?_
  unfold cnt
  by_cases h6 : s.length > 6
  · rw [if_pos h6]
    refine walk2 ?_
    exact fin
  rw [if_neg h6]
  have c1 := containsFunc_a 111 (fun z => decide (z < 0)) neg_a s (by omega)
  have c2 := containsFunc_a 112 (fun z => decide (z > 2048)) great_a s (by omega)
  have c3 := contains_a 0 s (by omega)
  cases h1 : s.any (fun z => decide (z < 0)) <;> rw [h1] at c1
  · rw [if_neg (by simp)]
    cases h2 : s.any (fun z => decide (z > 2048)) <;> rw [h2] at c2
    · rw [if_neg (by simp)]
      have c4 := product_a s (small_of h1 h2) (by omega)
      cases h3 : s.any (fun z => (0 : Int) == z) <;> rw [h3] at c3
      · rw [if_neg (by simp)]
        by_cases h4 : prodC s 1 = 0
        · rw [if_pos h4]
          refine walk2 ?_
          exact fin
        · rw [if_neg h4]
          refine walk2 ?_
          exact fin
      · rw [if_pos rfl]
        refine walk2 ?_
        exact fin
    · rw [if_pos rfl]
      refine walk2 ?_
      exact fin
  · rw [if_pos rfl]
    refine walk2 ?_
    exact fin
end Go.Proofs.Ytfnilbkahkbljaa
