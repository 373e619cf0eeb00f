/- When slices of whole numbers are the same, and numbers. -/
import Derived.Test.YtkgnnnehmnoleaaLabA
import Derived.Test.YtkgnnnehmnoleaaViewP
namespace Go.Proofs.Ytkgnnnehmnoleaa
set_option linter.unusedVariables false
open Go.RowKit

theorem know_sl {E : Env} {w : World} {sz : Nat} {es : List (List AV)} {v : Value} (h : Rd E w (.sl sz es) v) : es.length ≤ 281474976710656 := by
  obtain ⟨a, cap, vs, _, _, _, h, _⟩ := h
  exact h

theorem intsA_len (k : IntKind) (zs : List Int) : ((intsA k zs).length : Int) = zs.length := by simp [intsA]

theorem take_step {α : Type} [BEq α] [LawfulBEq α] {xs ys : List α} {k : Nat} {x y : α} (hx : xs[k]? = some x) (hy : ys[k]? = some y) (h : xs.take k = ys.take k) (e : x = y) : xs.take (k + 1) = ys.take (k + 1) := by
  rw [List.take_add_one, List.take_add_one, hx, hy, h, e]

theorem intsP_ne {xs ys : List Int} {k : Nat} {x y : Int} (hx : xs[k]? = some x) (hy : ys[k]? = some y) (e : ¬ x = y) : intsP xs ys = false := by
  cases h : intsP xs ys
  · rfl
  · have := eq_of_beq h
    subst this
    rw [hx] at hy
    exact absurd (Option.some.inj hy) e

theorem intsP_len {xs ys : List Int} (h : ¬ xs.length = ys.length) : intsP xs ys = false := by
  cases e : intsP xs ys
  · rfl
  · exact absurd (congrArg List.length (eq_of_beq e)) h

theorem intsP_end {xs ys : List Int} {k : Nat} (hk : ¬ k < xs.length) (hl : xs.length = ys.length) (h : xs.take k = ys.take k) : intsP xs ys = true := by
  rw [List.take_of_length_le (by omega), List.take_of_length_le (by omega)] at h
  subst h
  exact beq_self_eq_true _


theorem equalInt_a (xs ys : List Int) : ACalls Try.prog 39 [.sl 1 (intsA .i64 xs), .sl 1 (intsA .i64 ys)] (.lit (.bool (intsP xs ys))) := by
  have lx := intsA_len .i64 xs
  have ly := intsA_len .i64 ys
  refine acalls_of code_slices_Equal_int (by simp [fn_slices_Equal_int]) fun C hC => ?_
  refine aw_know 0 ((intsA .i64 xs).length ≤ 281474976710656) (fun E w v h => know_sl h) fun hx => ?_
  refine aw_know 1 ((intsA .i64 ys).length ≤ 281474976710656) (fun E w v h => know_sl h) fun hy => ?_
  by_cases hl : xs.length = ys.length
  · refine walk ?_
    refine aw_loop (X := Nat) (fun k => ⟨[(0, .sl 1 (intsA .i64 xs)), (1, .sl 1 (intsA .i64 ys)), (4, .lit (.bool false)), (12, .lit (.int .i64 xs.length)), (13, .lit (.int .i64 k))], [], 0⟩) (fun k => k ≤ xs.length ∧ xs.take k = ys.take k) (fun k => xs.length - k) 0 (wk hC [] [0, 1, 4, 12, 13] 0) ⟨Nat.zero_le _, rfl⟩ ?_
    rintro k ⟨hk, hs⟩
    by_cases hlt : k < xs.length
    · obtain ⟨x, hx'⟩ : ∃ x, xs[k]? = some x := ⟨_, List.getElem?_eq_getElem hlt⟩
      obtain ⟨y, hy'⟩ : ∃ y, ys[k]? = some y := ⟨_, List.getElem?_eq_getElem (by omega)⟩
      have hxk := int_at (k := .i64) hx'
      have hyk := int_at (k := .i64) hy'
      by_cases e : x = y
      · refine walk ?_
        exact ⟨k + 1, by omega, ⟨by omega, take_step hx' hy' hs e⟩, wk hC [] [0, 1, 4, 12, 13] 0⟩
      · refine walk ?_
        rw [intsP_ne hx' hy' e]
        exact ⟨_, _, rfl, rfl, Sub.refl _⟩
    · refine walk ?_
      rw [intsP_end hlt hl hs]
      exact ⟨_, _, rfl, rfl, Sub.refl _⟩
  · refine walk ?_
    rw [intsP_len hl]
    exact ⟨_, _, rfl, rfl, Sub.refl _⟩

theorem equalU32_a (xs ys : List Int) : ACalls Try.prog 47 [.sl 1 (intsA .u32 xs), .sl 1 (intsA .u32 ys)] (.lit (.bool (intsP xs ys))) := by
  have lx := intsA_len .u32 xs
  have ly := intsA_len .u32 ys
  refine acalls_of code_slices_Equal_uint32 (by simp [fn_slices_Equal_uint32]) fun C hC => ?_
  refine aw_know 0 ((intsA .u32 xs).length ≤ 281474976710656) (fun E w v h => know_sl h) fun hx => ?_
  refine aw_know 1 ((intsA .u32 ys).length ≤ 281474976710656) (fun E w v h => know_sl h) fun hy => ?_
  by_cases hl : xs.length = ys.length
  · refine walk ?_
    refine aw_loop (X := Nat) (fun k => ⟨[(0, .sl 1 (intsA .u32 xs)), (1, .sl 1 (intsA .u32 ys)), (4, .lit (.bool false)), (12, .lit (.int .i64 xs.length)), (13, .lit (.int .i64 k))], [], 0⟩) (fun k => k ≤ xs.length ∧ xs.take k = ys.take k) (fun k => xs.length - k) 0 (wk hC [] [0, 1, 4, 12, 13] 0) ⟨Nat.zero_le _, rfl⟩ ?_
    rintro k ⟨hk, hs⟩
    by_cases hlt : k < xs.length
    · obtain ⟨x, hx'⟩ : ∃ x, xs[k]? = some x := ⟨_, List.getElem?_eq_getElem hlt⟩
      obtain ⟨y, hy'⟩ : ∃ y, ys[k]? = some y := ⟨_, List.getElem?_eq_getElem (by omega)⟩
      have hxk := int_at (k := .u32) hx'
      have hyk := int_at (k := .u32) hy'
      by_cases e : x = y
      · refine walk ?_
        exact ⟨k + 1, by omega, ⟨by omega, take_step hx' hy' hs e⟩, wk hC [] [0, 1, 4, 12, 13] 0⟩
      · refine walk ?_
        rw [intsP_ne hx' hy' e]
        exact ⟨_, _, rfl, rfl, Sub.refl _⟩
    · refine walk ?_
      rw [intsP_end hlt hl hs]
      exact ⟨_, _, rfl, rfl, Sub.refl _⟩
  · refine walk ?_
    rw [intsP_len hl]
    exact ⟨_, _, rfl, rfl, Sub.refl _⟩

theorem limbs_a (xs ys : List Int) : ACalls Try.prog 38 [.sl 1 (intsA .u32 xs), .sl 1 (intsA .u32 ys)] (.lit (.bool (intsP xs ys))) := by
  have lx := intsA_len .u32 xs
  have ly := intsA_len .u32 ys
  refine acalls_of code_scrimref02_Same (by simp [fn_scrimref02_Same]) fun C hC => ?_
  refine aw_know 0 ((intsA .u32 xs).length ≤ 281474976710656) (fun E w v h => know_sl h) fun hx => ?_
  refine aw_know 1 ((intsA .u32 ys).length ≤ 281474976710656) (fun E w v h => know_sl h) fun hy => ?_
  by_cases hl : xs.length = ys.length
  · refine walk ?_
    refine aw_loop (X := Nat) (fun k => ⟨[(0, .sl 1 (intsA .u32 xs)), (1, .sl 1 (intsA .u32 ys)), (4, .lit (.bool false)), (5, .lit (.int .i64 k))], [], 0⟩) (fun k => k ≤ xs.length ∧ xs.take k = ys.take k) (fun k => xs.length - k) 0 (wk hC [] [0, 1, 4, 5] 0) ⟨Nat.zero_le _, rfl⟩ ?_
    rintro k ⟨hk, hs⟩
    by_cases hlt : k < xs.length
    · obtain ⟨x, hx'⟩ : ∃ x, xs[k]? = some x := ⟨_, List.getElem?_eq_getElem hlt⟩
      obtain ⟨y, hy'⟩ : ∃ y, ys[k]? = some y := ⟨_, List.getElem?_eq_getElem (by omega)⟩
      have hxk := int_at (k := .u32) hx'
      have hyk := int_at (k := .u32) hy'
      by_cases e : x = y
      · refine walk ?_
        exact ⟨k + 1, by omega, ⟨by omega, take_step hx' hy' hs e⟩, wk hC [] [0, 1, 4, 5] 0⟩
      · refine walk ?_
        rw [intsP_ne hx' hy' e]
        exact ⟨_, _, rfl, rfl, Sub.refl _⟩
    · refine walk ?_
      rw [intsP_end hlt hl hs]
      exact ⟨_, _, rfl, rfl, Sub.refl _⟩
  · refine walk ?_
    rw [intsP_len hl]
    exact ⟨_, _, rfl, rfl, Sub.refl _⟩

theorem ints_a (xs ys : List Int) : ACalls Try.prog 26 [.sl 1 (intsA .i64 xs), .sl 1 (intsA .i64 ys)] (.lit (.bool (intsP xs ys))) := by
  have lx := intsA_len .i64 xs
  have ly := intsA_len .i64 ys
  refine acalls_of code_scrimref07_Ints (by simp [fn_scrimref07_Ints]) fun C hC => ?_
  refine aw_know 0 ((intsA .i64 xs).length ≤ 281474976710656) (fun E w v h => know_sl h) fun hx => ?_
  refine aw_know 1 ((intsA .i64 ys).length ≤ 281474976710656) (fun E w v h => know_sl h) fun hy => ?_
  by_cases hl : xs.length = ys.length
  · refine walk ?_
    refine aw_loop (X := Nat) (fun k => ⟨[(0, .sl 1 (intsA .i64 xs)), (1, .sl 1 (intsA .i64 ys)), (4, .lit (.bool false)), (5, .lit (.int .i64 k))], [], 0⟩) (fun k => k ≤ xs.length ∧ xs.take k = ys.take k) (fun k => xs.length - k) 0 (wk hC [] [0, 1, 4, 5] 0) ⟨Nat.zero_le _, rfl⟩ ?_
    rintro k ⟨hk, hs⟩
    by_cases hlt : k < xs.length
    · obtain ⟨x, hx'⟩ : ∃ x, xs[k]? = some x := ⟨_, List.getElem?_eq_getElem hlt⟩
      obtain ⟨y, hy'⟩ : ∃ y, ys[k]? = some y := ⟨_, List.getElem?_eq_getElem (by omega)⟩
      have hxk := int_at (k := .i64) hx'
      have hyk := int_at (k := .i64) hy'
      by_cases e : x = y
      · refine walk ?_
        exact ⟨k + 1, by omega, ⟨by omega, take_step hx' hy' hs e⟩, wk hC [] [0, 1, 4, 5] 0⟩
      · refine walk ?_
        rw [intsP_ne hx' hy' e]
        exact ⟨_, _, rfl, rfl, Sub.refl _⟩
    · refine walk ?_
      rw [intsP_end hlt hl hs]
      exact ⟨_, _, rfl, rfl, Sub.refl _⟩
  · refine walk ?_
    rw [intsP_len hl]
    exact ⟨_, _, rfl, rfl, Sub.refl _⟩

theorem num_a (a b : Num) : ACalls Try.prog 42 [.agg (numV a), .agg (numV b)] (.lit (.bool (numP a b))) := by
  refine acalls_of code_ratio_Same (by simp [fn_ratio_Same]) fun C hC => ?_
  refine walk ?_
  refine aw_reg (rrun ?_)
  rw [numP]
  cases h1 : (a.neg == b.neg)
  · refine rrun ?_
    refine rg_nil ⟨rfl, ?_⟩
    refine walk ?_
    exact ⟨_, _, rfl, rfl, Sub.refl _⟩
  · refine rrun ?_
    refine r_call (equalU32_a a.top b.top) ?_
    cases h2 : intsP a.top b.top
    · refine rrun ?_
      refine rg_nil ⟨rfl, ?_⟩
      refine walk ?_
      exact ⟨_, _, rfl, rfl, Sub.refl _⟩
    · refine rrun ?_
      refine r_call (equalU32_a a.bot b.bot) (rrun ?_)
      refine rg_nil ⟨rfl, ?_⟩
      refine walk ?_
      exact ⟨_, _, rfl, rfl, Sub.refl _⟩

theorem rnum_a (a b : Num) : ACalls Try.prog 27 [.agg (numV a), .agg (numV b)] (.lit (.bool (numP a b))) := by
  refine acalls_of code_scrimref04_Same (by simp [fn_scrimref04_Same]) fun C hC => ?_
  refine walk ?_
  refine aw_reg (rrun ?_)
  rw [numP]
  cases h1 : (a.neg == b.neg)
  · refine rrun ?_
    refine rg_nil ⟨rfl, ?_⟩
    refine walk ?_
    exact ⟨_, _, rfl, rfl, Sub.refl _⟩
  · refine rrun ?_
    refine r_call (limbs_a a.top b.top) ?_
    cases h2 : intsP a.top b.top
    · refine rrun ?_
      refine rg_nil ⟨rfl, ?_⟩
      refine walk ?_
      exact ⟨_, _, rfl, rfl, Sub.refl _⟩
    · refine rrun ?_
      refine r_call (limbs_a a.bot b.bot) (rrun ?_)
      refine rg_nil ⟨rfl, ?_⟩
      refine walk ?_
      exact ⟨_, _, rfl, rfl, Sub.refl _⟩
end Go.Proofs.Ytkgnnnehmnoleaa
