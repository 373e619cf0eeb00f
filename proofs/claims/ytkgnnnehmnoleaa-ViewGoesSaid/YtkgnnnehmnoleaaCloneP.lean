/- slices.Clone. -/
import Derived.Test.YtkgnnnehmnoleaaEqFP
namespace Go.Proofs.Ytkgnnnehmnoleaa
set_option linter.unusedVariables false
open Go.RowKit

theorem cloneInt_a (es : List (List AV)) (hb : es.length ≤ 100000000000) : ACalls Try.prog 25 [.sl 1 es] (.sl 1 es) := by
  refine acalls_at code_slices_Clone_int (by simp [fn_slices_Clone_int]) fun im w vs hlt hrd => ?_
  obtain ⟨v, rest, rfl, hv, hrest⟩ := hrd
  have hv' := hv
  obtain ⟨a, cap, vs', rfl, hle, hnil, hmax, hat, h1s, hrd⟩ := hv'
  have hrest' : rest = [] := hrest
  subst hrest'
  cases a with
  | none =>
    have hc := hnil rfl
    subst hc
    have hes : es = [] := List.eq_nil_of_length_eq_zero (by omega)
    subst hes
    refine ⟨[.lit (.slice none 0 0)], ⟨_, [], rfl, rfl, rfl⟩, fun C hC _ _ => ?_⟩
    refine walk ?_
    refine aw_reg (rrun ?_)
    refine r_eqvS Try.underlying23 (rrun ?_)
    refine rg_nil ⟨rfl, ?_⟩
    refine walk ?_
    exact ⟨_, _, rfl, rfl, Sub.nil _⟩
  | some x =>
    refine ⟨[.lit (.slice (some x) es.length cap)], ⟨_, [], rfl, rfl, rfl⟩, fun C hC hw0 him => ?_⟩
    refine walk ?_
    refine aw_reg (rrun ?_)
    refine r_eqvS Try.underlying23 (rrun ?_)
    refine rg_nil ⟨rfl, ?_⟩
    refine walk ?_
    refine aw_weak (wk_back (n := 0) (av := .sl 1 es) hC rfl (by rw [hw0, him]; exact hv) (by rw [hw0, him]; exact hlt)) ?_
    refine walk ?_
    refine aw_reg (rrun ?_)
    refine r_rowlit ?_
    refine rrun ?_
    refine r_append ?_ ?_
    · simp only [chunk, List.length_nil, Nat.zero_add]; omega
    refine rrun ?_
    refine rg_nil ⟨rfl, ?_⟩
    refine walk ?_
    exact ⟨_, _, rfl, rfl, Sub.refl _⟩

theorem cloneU32_a (es : List (List AV)) (hb : es.length ≤ 100000000000) : ACalls Try.prog 28 [.sl 1 es] (.sl 1 es) := by
  refine acalls_at code_slices_Clone_uint32 (by simp [fn_slices_Clone_uint32]) fun im w vs hlt hrd => ?_
  obtain ⟨v, rest, rfl, hv, hrest⟩ := hrd
  have hv' := hv
  obtain ⟨a, cap, vs', rfl, hle, hnil, hmax, hat, h1s, hrd⟩ := hv'
  have hrest' : rest = [] := hrest
  subst hrest'
  cases a with
  | none =>
    have hc := hnil rfl
    subst hc
    have hes : es = [] := List.eq_nil_of_length_eq_zero (by omega)
    subst hes
    refine ⟨[.lit (.slice none 0 0)], ⟨_, [], rfl, rfl, rfl⟩, fun C hC _ _ => ?_⟩
    refine walk ?_
    refine aw_reg (rrun ?_)
    refine r_eqvS Try.underlying27 (rrun ?_)
    refine rg_nil ⟨rfl, ?_⟩
    refine walk ?_
    exact ⟨_, _, rfl, rfl, Sub.nil _⟩
  | some x =>
    refine ⟨[.lit (.slice (some x) es.length cap)], ⟨_, [], rfl, rfl, rfl⟩, fun C hC hw0 him => ?_⟩
    refine walk ?_
    refine aw_reg (rrun ?_)
    refine r_eqvS Try.underlying27 (rrun ?_)
    refine rg_nil ⟨rfl, ?_⟩
    refine walk ?_
    refine aw_weak (wk_back (n := 0) (av := .sl 1 es) hC rfl (by rw [hw0, him]; exact hv) (by rw [hw0, him]; exact hlt)) ?_
    refine walk ?_
    refine aw_reg (rrun ?_)
    refine r_rowlit ?_
    refine rrun ?_
    refine r_append ?_ ?_
    · simp only [chunk, List.length_nil, Nat.zero_add]; omega
    refine rrun ?_
    refine rg_nil ⟨rfl, ?_⟩
    refine walk ?_
    exact ⟨_, _, rfl, rfl, Sub.refl _⟩

theorem cloneArr_a (es : List (List AV)) (hb : es.length ≤ 100000000000) : ACalls Try.prog 50 [.sl 3 es] (.sl 3 es) := by
  refine acalls_at code_slices_Clone_api_Array (by simp [fn_slices_Clone_api_Array]) fun im w vs hlt hrd => ?_
  obtain ⟨v, rest, rfl, hv, hrest⟩ := hrd
  have hv' := hv
  obtain ⟨a, cap, vs', rfl, hle, hnil, hmax, hat, h1s, hrd⟩ := hv'
  have hrest' : rest = [] := hrest
  subst hrest'
  cases a with
  | none =>
    have hc := hnil rfl
    subst hc
    have hes : es = [] := List.eq_nil_of_length_eq_zero (by omega)
    subst hes
    refine ⟨[.lit (.slice none 0 0)], ⟨_, [], rfl, rfl, rfl⟩, fun C hC _ _ => ?_⟩
    refine walk ?_
    refine aw_reg (rrun ?_)
    refine r_eqvS Try.underlying30 (rrun ?_)
    refine rg_nil ⟨rfl, ?_⟩
    refine walk ?_
    exact ⟨_, _, rfl, rfl, Sub.nil _⟩
  | some x =>
    refine ⟨[.lit (.slice (some x) es.length cap)], ⟨_, [], rfl, rfl, rfl⟩, fun C hC hw0 him => ?_⟩
    refine walk ?_
    refine aw_reg (rrun ?_)
    refine r_eqvS Try.underlying30 (rrun ?_)
    refine rg_nil ⟨rfl, ?_⟩
    refine walk ?_
    refine aw_weak (wk_back (n := 0) (av := .sl 3 es) hC rfl (by rw [hw0, him]; exact hv) (by rw [hw0, him]; exact hlt)) ?_
    refine walk ?_
    refine aw_reg (rrun ?_)
    refine r_rowlit ?_
    refine rrun ?_
    refine r_append ?_ ?_
    · simp only [chunk, List.length_nil, Nat.zero_add]; omega
    refine rrun ?_
    refine rg_nil ⟨rfl, ?_⟩
    refine walk ?_
    exact ⟨_, _, rfl, rfl, Sub.refl _⟩

end Go.Proofs.Ytkgnnnehmnoleaa
