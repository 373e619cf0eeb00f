/- Places and shapes: what the program's functions answer. -/
import Derived.Test.YtfnilbkahkbljaaShA
namespace Go.Proofs.Ytfnilbkahkbljaa
set_option linter.unusedVariables false
open Go.RowKit

theorem cloneInt_m (es : List (List AV)) (hn : 0 < es.length) (hb : es.length ≤ 100000000000) : AMut Try.prog 63 [.sl 1 es] [] 0 (.own 0) [(0, some ⟨true, false, 3, 1, es⟩)] 1 := by
  have hu := Try.underlying23
  refine amut_of code_slices_Clone_int (by simp [fn_slices_Clone_int]) fun C hC => ?_
  refine walk2 ?_
  exact fin_m [(0, 1)]

theorem idxC_at {s d : List Int} {k : Nat} {z y : Int} (h : s[k]? = some z) (h' : d[k]? = some y) (o : Int) : idxC (s.drop k) (d.drop k) o = if y < 0 ∨ z ≤ y then none else idxC (s.drop (k + 1)) (d.drop (k + 1)) (o * z + y) := by
  rw [dropA_cons h, dropA_cons h', idxC]

theorem shIndex_a (s d : List Int) (ld : d.length ≤ maxB) (ls0 : s.length ≤ maxB) : ACalls Try.prog 131 [.sl 1 (intsA .i64 s), .sl 1 (intsA .i64 d)] (.tup [.lit (.int .i64 (idx s d).1), .lit (.bool (idx s d).2)]) := by
  have hB : maxB = 1000000000 := rfl
  have ls := intsA_len .i64 s
  have ldd := intsA_len .i64 d
  have c1 := count_a s
  refine acalls_of code_shape_Index (by simp [fn_shape_Index]) fun C hC => ?_
  unfold idx
  by_cases h1 : (cnt s).2 = 0
  · by_cases h2 : d.length = s.length
    · rw [if_neg (by simp [h1, h2])]
      rw [h1] at c1
      refine walk2 ?_
      refine aw_loopB [0, 1, 4, 5, 25, 26] [] (fun p : Nat × Int => [(8, .lit (.int .i64 p.2)), (27, .lit (.int .i64 p.1))]) (fun _ => []) 0 (fun p => p.1 ≤ s.length ∧ 0 ≤ p.2 ∧ p.2 < prodL (s.take p.1) ∧ idxC s d 0 = idxC (s.drop p.1) (d.drop p.1) p.2) (fun p => s.length - p.1) (0, 0)
        ⟨Nat.zero_le _, by simp only; omega, by simp [prodL], rfl⟩ ?_
      rintro ⟨k, o⟩ ⟨hk, o0, o1, hE⟩
      simp only at hk o0 o1 hE
      dsimp only [List.cons_append, List.nil_append]
      generalize idxC s d 0 = G at hE ⊢
      by_cases hlt : k < s.length
      · obtain ⟨z, hz⟩ : ∃ z, s[k]? = some z := ⟨_, List.getElem?_eq_getElem hlt⟩
        obtain ⟨y, hy⟩ : ∃ y, d[k]? = some y := ⟨_, List.getElem?_eq_getElem (by omega)⟩
        have hzk := int_at (k := .i64) hz
        have hyk := int_at (k := .i64) hy
        rw [idxC_at hz hy] at hE
        by_cases h3 : y < 0
        · rw [if_pos (.inl h3)] at hE
          rw [hE, idxF]
          refine walk2 ?_
          exact fin
        · by_cases h4 : z ≤ y
          · rw [if_pos (.inr h4)] at hE
            rw [hE, idxF]
            refine walk2 ?_
            exact fin
          · rw [if_neg (by omega)] at hE
            obtain ⟨i1, i2, i3, i4⟩ := idx_step (y := y) h1 hz o0 o1 (by omega) (by omega)
            have hm : -9223372036854775808 ≤ o * z ∧ o * z ≤ 9223372036854775807 := by omega
            refine walk2 ?_
            exact ⟨(k + 1, o * z + y), by simp only; omega, ⟨by simp only; omega, by simp only; omega, i1, hE⟩, wkR hC.m []⟩
      · rw [List.drop_eq_nil_of_le (by omega), idxC_nil] at hE
        rw [hE, idxF]
        refine walk2 ?_
        exact fin
    · rw [if_pos (.inr h2)]
      rw [h1] at c1
      refine walk2 ?_
      exact fin
  · rw [if_pos (.inl h1)]
    refine walk2 ?_
    exact fin

theorem digR_at {s : List Int} {k : Nat} {z : Int} (h : s[k]? = some z) (n : Int) : digR (s.drop k) n = ((digR (s.drop (k + 1)) n).1 / z, ((digR (s.drop (k + 1)) n).1 % z) :: (digR (s.drop (k + 1)) n).2) := by
  rw [dropA_cons h, digR]

theorem pos_of_prod : ∀ {s : List Int}, Small s → 0 < prodL s → ∀ z ∈ s, 0 < z := fun {s} hs h z hz => by
  have h0 := (hs z hz).1
  rcases Int.lt_or_eq_of_le h0 with h1 | h1
  · exact h1
  · subst h1
    rw [prodL_zero hz] at h
    omega

/-- the place of a cell, in memory of the caller's own -/
theorem shAt_m (s : List Int) (n : Int) (h1 : (cnt s).2 = 0) (n0 : 0 ≤ n) (n1 : n < (cnt s).1) : AMut Try.prog 130 [.sl 1 (intsA .i64 s), .lit (.int .i64 n)] [] 0 (.tup [.own 0, .lit (.bool true)]) [(0, some ⟨true, false, 3, 1, intsA .i64 (digR s n).2⟩)] 1 := by
  have ls := intsA_len .i64 s
  have hl6 := cnt_len h1
  have hsm := cnt_small h1
  have hle := cnt_le s
  have hpos := pos_of_prod hsm (by rw [← cnt_prod h1]; omega)
  have c1 := count_a s
  rw [h1] at c1
  refine amut_of code_shape_At (by simp [fn_shape_At]) fun C hC => ?_
  refine walk2 ?_
  refine aw_loopB [0, 4, 5, 8] [] (fun p : Nat => [(1, .lit (.int .i64 (digR (s.drop p) n).1)), (9, .lit (.int .i64 ((p : Int) - 1)))]) (fun p => [(0, some ⟨true, false, 3, 1, intsA .i64 (List.replicate p 0 ++ (digR (s.drop p) n).2)⟩)]) 1
    (fun p => p ≤ s.length ∧ 0 ≤ (digR (s.drop p) n).1 ∧ (digR (s.drop p) n).1 ≤ n) (fun p => p) s.length ⟨Nat.le_refl _, by simp [digR]; omega, by simp [digR]⟩ ?_
    (ht := by simp only [List.drop_length, digR]; rfl) (hh := by simp only [List.drop_length, digR, List.append_nil, ← intsA_rep]; rfl)
  rintro c ⟨hc, d0, d1⟩
  dsimp only [List.cons_append, List.nil_append]
  cases c with
  | zero =>
    simp only [List.drop_zero, List.replicate_zero, List.nil_append]
    refine walk2 ?_
    exact fin_m []
  | succ k =>
    obtain ⟨z, hz⟩ : ∃ z, s[k]? = some z := ⟨_, List.getElem?_eq_getElem (by omega)⟩
    have hzp := hpos z (List.mem_of_getElem? hz)
    have hzs := hsm z (List.mem_of_getElem? hz)
    have hi : (((k + 1 : Nat) : Int) - 1).toNat = k := by omega
    have hzk : (intsA .i64 s)[(((k + 1 : Nat) : Int) - 1).toNat]? = some [.lit (.int .i64 z)] := by rw [hi]; exact int_at hz
    have hdk := digR_at hz n
    generalize digR (s.drop (k + 1)) n = D at d0 d1 hdk ⊢
    obtain ⟨q, ds⟩ := D
    simp only at d0 d1 hdk ⊢
    have hget : (intsA .i64 (List.replicate (k + 1) 0 ++ ds))[(((k + 1 : Nat) : Int) - 1).toNat]? = some [.lit (.int .i64 0)] := by
      rw [hi]; exact int_at (by rw [List.getElem?_append_left (by simp)]; simp)
    have hll : (intsA .i64 (List.replicate (k + 1) 0 ++ ds)).length = k + 1 + ds.length := by simp [intsA]
    have hset : (intsA .i64 (List.replicate (k + 1) 0 ++ ds)).set (((k + 1 : Nat) : Int) - 1).toNat [.lit (.int .i64 (q % z))] = intsA .i64 (List.replicate k 0 ++ (q % z) :: ds) := by
      rw [hi, intsA_set, rep_set]
    have hq0 : 0 ≤ q / z := Int.ediv_nonneg d0 (by omega)
    have hq1 : q / z ≤ q := Int.ediv_le_self _ d0
    refine walk2 ?_
    refine ⟨k, by omega, ⟨by omega, by rw [hdk]; exact hq0, by rw [hdk]; show q / z ≤ n; omega⟩, wkR hC.m [] ?_⟩
    rw [hdk, show ((k : Nat) : Int) - 1 = ((k + 1 : Nat) : Int) - 1 - 1 from by omega]
    simp only
    rw [← hset]
    rfl

theorem shAround_a (s : List Int) (a : Nat) (z : Int) (h1 : (cnt s).2 = 0) (hz : s[a]? = some z) : ACalls Try.prog 88 [.sl 1 (intsA .i64 s), .lit (.int .i64 a)] (.tup [.lit (.int .i64 (prodC (s.take a) 1)), .lit (.int .i64 z), .lit (.int .i64 (prodC (s.drop (a + 1)) 1)), .lit (.bool true)]) := by
  have hB : maxB = 1000000000 := rfl
  have ls := intsA_len .i64 s
  have hl6 := cnt_len h1
  have hsm := cnt_small h1
  have ha := (List.getElem?_eq_some_iff.1 hz).1
  have hzk := int_at (k := .i64) hz
  have c1 := count_a s
  rw [h1] at c1
  have c2 := product_a (s.take a) (fun y hy => hsm y (List.mem_of_mem_take hy)) (by simp; omega)
  have c3 := product_a (s.drop (a + 1)) (fun y hy => hsm y (List.mem_of_mem_drop hy)) (by simp; omega)
  have k1 := Cut.upto (k := .i64) (s := s) (b := a) (by omega)
  have k2 := Cut.from (k := .i64) (s := s) (a := a + 1) (by omega)
  refine acalls_of code_shape_Around (by simp [fn_shape_Around]) fun C hC => ?_
  refine walk2 ?_
  exact fin

theorem set_cut (s : List Int) (a : Nat) (h : a < s.length) (n : Int) : s.take a ++ n :: s.drop (a + 1) = s.set a n := by
  rw [List.set_eq_take_append_cons_drop, if_pos h]

theorem shWith_a (s : List Int) (a : Nat) (n : Int) (h : a < s.length) (hl : s.length ≤ maxB) : ACalls Try.prog 117 [.sl 1 (intsA .i64 s), .lit (.int .i64 a), .lit (.int .i64 n)] (.tup [.sl 1 (intsA .i64 (s.set a n)), .lit (.bool true)]) := by
  have hB : maxB = 1000000000 := rfl
  have ls := intsA_len .i64 s
  have c1 := cloneInt_m (intsA .i64 s) (by omega) (by omega)
  obtain ⟨z, hz⟩ : ∃ z, s[a]? = some z := ⟨_, List.getElem?_eq_getElem h⟩
  have hzk := int_at (k := .i64) hz
  have hset := intsA_set .i64 s a n
  refine acalls_of code_shape_With (by simp [fn_shape_With]) fun C hC => ?_
  refine walk2 ?_
  refine aw_reg (rrun2 ?_)
  refine r_callN [] c1 ?_
  refine rrun2 ?_
  refine rg_nil ⟨rfl, ?_⟩
  refine walk2 ?_
  rw [← hset]
  exact fin

theorem shWithout_a (s : List Int) (a : Nat) (h : a < s.length) (hl : s.length ≤ maxB) : ACalls Try.prog 108 [.sl 1 (intsA .i64 s), .lit (.int .i64 a)] (.tup [.sl 1 (intsA .i64 (s.take a ++ s.drop (a + 1))), .lit (.bool true)]) := by
  have hB : maxB = 1000000000 := rfl
  have ls := intsA_len .i64 s
  have k1 := Cut.upto (k := .i64) (s := s) (b := a) (by omega)
  have k2 := Cut.from (k := .i64) (s := s) (a := a + 1) (by omega)
  have l1 := intsA_len .i64 (s.take a)
  have l2 := intsA_len .i64 (s.drop (a + 1))
  rw [List.length_take] at l1
  rw [List.length_drop] at l2
  have hb1 : (0 + (intsA .i64 (s.take a)).length) * 8 ≤ 140737488355328 := by omega
  have hb2 : ((intsA .i64 (s.take a)).length + (intsA .i64 (s.drop (a + 1))).length) * 8 ≤ 140737488355328 := by omega
  refine acalls_of code_shape_Without (by simp [fn_shape_Without]) fun C hC => ?_
  refine walk2 ?_
  rw [← intsA_app]
  exact fin
end Go.Proofs.Ytfnilbkahkbljaa
