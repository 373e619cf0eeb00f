/- Arrays put together: the document's answer is catP. -/
import Derived.Test.YtfnilbkahkbljaaJoinU
namespace Go.Proofs.Ytfnilbkahkbljaa
set_option linter.unusedVariables false
open Go.RowKit

theorem longer_a (a b v : Int) (h : (a > b ∧ v = a) ∨ (a ≤ b ∧ v = b)) : ACalls Try.prog 71 [.lit (.int .i64 a), .lit (.int .i64 b)] (.lit (.int .i64 v)) := by
  rcases h with ⟨h, rfl⟩ | ⟨h, rfl⟩
  · refine acalls_of code_scrimref12_longer (by simp [fn_scrimref12_longer]) fun C hC => ?_
    refine walk2 ?_
    exact fin
  · refine acalls_of code_scrimref12_longer (by simp [fn_scrimref12_longer]) fun C hC => ?_
    refine walk2 ?_
    exact fin

theorem counted_same (s other : List Int) (n x : Nat) (h6 : s.length ≤ 6) (h : s.length = n) : ACalls Try.prog 72 [.sl 1 (intsA .i64 s), .sl 1 (intsA .i64 other), .lit (.int .i64 x), .lit (.int .i64 n)] (.tup [.sl 1 (intsA .i64 s), .lit (.int .i64 0)]) := by
  have ls := intsA_len .i64 s
  refine acalls_of code_scrimref12_counted (by simp [fn_scrimref12_counted]) fun C hC => ?_
  refine walk2 ?_
  exact fin

theorem counted_none (s other : List Int) (n x : Nat) (h6 : s.length ≤ 6) (hn : n ≤ 6) (h : s.length ≠ n) (h0 : s.length ≠ 0) (h1 : s.length + 1 ≠ n) : ACalls Try.prog 72 [.sl 1 (intsA .i64 s), .sl 1 (intsA .i64 other), .lit (.int .i64 x), .lit (.int .i64 n)] (.tup [.sl 1 [], .lit (.int .i64 5)]) := by
  have ls := intsA_len .i64 s
  refine acalls_of code_scrimref12_counted (by simp [fn_scrimref12_counted]) fun C hC => ?_
  refine walk2 ?_
  exact fin

theorem counted_less (s other : List Int) (n x : Nat) (h6 : s.length ≤ 6) (hn : n ≤ 6) (h0 : s.length ≠ 0) (h1 : s.length + 1 = n) (hx : x < n) : ACalls Try.prog 72 [.sl 1 (intsA .i64 s), .sl 1 (intsA .i64 other), .lit (.int .i64 x), .lit (.int .i64 n)] (.tup [.sl 1 (intsA .i64 (s.take x ++ 1 :: s.drop x)), .lit (.int .i64 0)]) := by
  have ls := intsA_len .i64 s
  have k1 := Cut.upto (k := .i64) (s := s) (b := x) (by omega)
  have k2 := Cut.from (k := .i64) (s := s) (a := x) (by omega)
  have l1 := intsA_len .i64 (s.take x)
  have l2 := intsA_len .i64 (s.drop x)
  rw [List.length_take] at l1
  rw [List.length_drop] at l2
  have hb1 : (intsA .i64 (s.take x)).length * 8 ≤ 140737488355328 := by omega
  have hb2 : ((intsA .i64 (s.take x)).length + 1) * 8 ≤ 140737488355328 := by omega
  have hb3 : ((intsA .i64 (s.take x)).length + 1 + (intsA .i64 (s.drop x)).length) * 8 ≤ 140737488355328 := by omega
  refine acalls_of code_scrimref12_counted (by simp [fn_scrimref12_counted]) fun C hC => ?_
  refine walk2 ?_
  rw [show intsA .i64 (s.take x ++ 1 :: s.drop x) = (intsA .i64 (s.take x) ++ [[.lit (.int .i64 1)]]) ++ intsA .i64 (s.drop x) from by simp [intsA]]
  exact fin

theorem counted_zero1 (x : Nat) : ACalls Try.prog 72 [.sl 1 (intsA .i64 []), .sl 1 (intsA .i64 []), .lit (.int .i64 x), .lit (.int .i64 1)] (.tup [.sl 1 (intsA .i64 [1]), .lit (.int .i64 0)]) := by
  refine acalls_of code_scrimref12_counted (by simp [fn_scrimref12_counted]) fun C hC => ?_
  refine walk2 ?_
  exact fin

theorem counted_zero (other : List Int) (n x : Nat) (hn : n ≤ 6) (h : other.length = n) (hx : x < n) : ACalls Try.prog 72 [.sl 1 (intsA .i64 []), .sl 1 (intsA .i64 other), .lit (.int .i64 x), .lit (.int .i64 n)] (.tup [.sl 1 (intsA .i64 (other.set x 1)), .lit (.int .i64 0)]) := by
  have hB : maxB = 1000000000 := rfl
  have ls : (((intsA .i64 []).length : Nat) : Int) = 0 := rfl
  have lo := intsA_len .i64 other
  have c1 := refWith_a other x 1 (by omega) (by omega)
  refine acalls_of code_scrimref12_counted (by simp [fn_scrimref12_counted]) fun C hC => ?_
  refine walk2 ?_
  exact fin

theorem counted_a (A B : Arr) (hl : A.shape.length ≤ 6) (hm : B.shape.length ≤ 6) (n x : Nat) (hn : n = axN A B) (hx : x < n) :
    (∀ s al, widP A.shape B.shape n x = some (s, al) → ACalls Try.prog 72 [.sl 1 (intsA .i64 A.shape), .sl 1 (intsA .i64 B.shape), .lit (.int .i64 x), .lit (.int .i64 n)] (.tup [.sl 1 (intsA .i64 s), .lit (.int .i64 0)])) ∧
    (widP A.shape B.shape n x = none → ACalls Try.prog 72 [.sl 1 (intsA .i64 A.shape), .sl 1 (intsA .i64 B.shape), .lit (.int .i64 x), .lit (.int .i64 n)] (.tup [.sl 1 [], .lit (.int .i64 5)])) := by
  have hn1 : A.shape.length ≤ n ∧ B.shape.length ≤ n ∧ 1 ≤ n ∧ n ≤ 6 ∧ (A.shape.length = 0 → B.shape.length = 0 → n = 1) ∧ (A.shape.length = 0 → B.shape.length ≠ 0 → n = B.shape.length) := by unfold axN at hn; omega
  unfold widP
  by_cases h1 : A.shape.length = n
  · rw [if_pos h1]
    refine ⟨fun s al h => ?_, fun h => by cases h⟩
    simp only [Option.some.injEq, Prod.mk.injEq] at h
    obtain ⟨rfl, rfl⟩ := h
    exact counted_same A.shape B.shape n x hl h1
  · rw [if_neg h1]
    by_cases h2 : A.shape = []
    · rw [if_pos h2]
      have hA0 : A.shape.length = 0 := by rw [h2]; rfl
      by_cases h3 : B.shape = []
      · rw [if_pos h3]
        refine ⟨fun s al h => ?_, fun h => by cases h⟩
        simp only [Option.some.injEq, Prod.mk.injEq] at h
        obtain ⟨rfl, rfl⟩ := h
        have e : n = 1 := hn1.2.2.2.2.1 hA0 (by rw [h3]; rfl)
        rw [h2, h3, e]
        exact counted_zero1 x
      · rw [if_neg h3]
        refine ⟨fun s al h => ?_, fun h => by cases h⟩
        simp only [Option.some.injEq, Prod.mk.injEq] at h
        obtain ⟨rfl, rfl⟩ := h
        have e : n = B.shape.length := hn1.2.2.2.2.2 hA0 (fun h => h3 (List.eq_nil_of_length_eq_zero h))
        rw [h2]
        exact counted_zero B.shape n x (by omega) e.symm hx
    · rw [if_neg h2]
      have h2' : A.shape.length ≠ 0 := fun h => h2 (List.eq_nil_of_length_eq_zero h)
      by_cases h3 : A.shape.length + 1 = n
      · rw [if_pos h3]
        refine ⟨fun s al h => ?_, fun h => by cases h⟩
        simp only [Option.some.injEq, Prod.mk.injEq] at h
        obtain ⟨rfl, rfl⟩ := h
        exact counted_less A.shape B.shape n x hl (by omega) h2' h3 hx
      · rw [if_neg h3]
        exact ⟨fun s al h => (by cases h), fun _ => counted_none A.shape B.shape n x hl (by omega) h1 h2' h3⟩

theorem at_alone (A : Arr) (s d : List Int) (c : Cell) (h : A.shape = []) (hc : A.cells[0]? = some c) : ACalls Try.prog 76 [.agg (arrV A), .sl 1 (intsA .i64 s), .sl 1 (intsA .i64 d)] (.agg (cellV c)) := by
  have hcv : (A.cells.map cellR)[(0 : Int).toNat]? = some (cellV c) := cell_at hc
  have hcl : 0 < ((A.cells.map cellR).length : Int) := by
    have := (List.getElem?_eq_some_iff.1 hc).1
    simp; omega
  refine acalls_of code_scrimref12_at (by simp [fn_scrimref12_at]) fun C hC => ?_
  unfold arrV
  rw [h]
  refine walk2 ?_
  exact fin

theorem at_plain (A : Arr) (s d : List Int) (c : Cell) (k : Nat) (h : A.shape.length ≠ 0) (hk : findL (placesL s) d 0 = k) (h0 : (cnt s).2 = 0) (hc : A.cells[k]? = some c) : ACalls Try.prog 76 [.agg (arrV A), .sl 1 (intsA .i64 s), .sl 1 (intsA .i64 d)] (.agg (cellV c)) := by
  have ls := intsA_len .i64 A.shape
  have c1 := refIndex_a s d h0
  rw [hk] at c1
  have hcv : (A.cells.map cellR)[((k : Nat) : Int).toNat]? = some (cellV c) := cell_at hc
  have hcl : (k : Int) < ((A.cells.map cellR).length : Int) := by
    have := (List.getElem?_eq_some_iff.1 hc).1
    simp; omega
  refine acalls_of code_scrimref12_at (by simp [fn_scrimref12_at]) fun C hC => ?_
  refine walk2 ?_
  exact fin

theorem cnt_ok {s : List Int} (h6 : s.length ≤ 6) (hs : Small s) (hp : prodL s ≤ 2048) : (cnt s).2 = 0 := by
  unfold cnt
  rw [if_neg (by omega), if_neg (by simp only [List.any_eq_true, decide_eq_true_eq, not_exists, not_and]; exact fun z hz => by have := (hs z hz).1; omega), if_neg (by simp only [List.any_eq_true, decide_eq_true_eq, not_exists, not_and]; exact fun z hz => by have := (hs z hz).2; omega)]
  split
  · rfl
  · rename_i h
    have hpos : ∀ z ∈ s, 0 < z := fun z hz => by
      have h1 := (hs z hz).1
      rcases Int.lt_or_eq_of_le h1 with h2 | h2
      · exact h2
      · subst h2
        exact absurd (List.any_eq_true.2 ⟨0, hz, by simp⟩) h
    have e := prodC_le s 1 (by omega) hpos (by omega)
    have := prodL_pos s hpos
    rw [if_neg (by omega)]

theorem dig3 {s1 s2 : List Int} {L : Int} (hp : ∀ z ∈ s2, 0 < z) (q j r B l : Nat) (hB : prodL s2 = B) (hr : r < B) (hL : L = l) (hj : j < l) :
    (digR (s1 ++ L :: s2) (((q * l + j) * B + r : Nat) : Int)).2 = (digR s1 q).2 ++ (j : Int) :: (digR s2 r).2 := by
  have e1 : (digR s2 (((q * l + j) * B + r : Nat) : Int)).1 = ((q * l + j : Nat) : Int) := by
    rw [digR_fst s2 _ hp, hB, ← Int.natCast_ediv]
    rw [Nat.add_comm, Nat.add_mul_div_right _ _ (by omega), Nat.div_eq_of_lt hr, Nat.zero_add]
  have e2 : (digR s2 (((q * l + j) * B + r : Nat) : Int)).2 = (digR s2 r).2 := digR_mod s2 _ _ hp (by
    rw [hB, ← Int.natCast_emod, ← Int.natCast_emod, Nat.add_comm, Nat.add_mul_mod_self_right])
  rw [digR_append]
  have e3 : digR (L :: s2) (((q * l + j) * B + r : Nat) : Int) = ((q : Int), (j : Int) :: (digR s2 r).2) := by
    show (_, _) = _
    rw [e1, e2, hL]
    have h1 : ((q * l + j : Nat) : Int) / (l : Int) = q := by
      rw [← Int.natCast_ediv, Nat.add_comm, Nat.add_mul_div_right _ _ (by omega), Nat.div_eq_of_lt hj, Nat.zero_add]
    have h2 : ((q * l + j : Nat) : Int) % (l : Int) = j := by
      rw [← Int.natCast_emod, Nat.add_comm, Nat.add_mul_mod_self_right, Nat.mod_eq_of_lt hj]
    rw [h1, h2]
  rw [e3]
end Go.Proofs.Ytfnilbkahkbljaa
