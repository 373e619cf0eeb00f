/- Labels: plain laws; a short way to weaken a state. No program in sight. -/
import Derived.Test.YtkgnnnehmnoleaaAbsS
namespace Go.Proofs.Ytkgnnnehmnoleaa
set_option linter.unusedVariables false
open Go.RowKit

def flowsN (a b : Nat) : Bool := a ||| b == b

theorem andNot_zero (a b : Nat) (ha : a < 18446744073709551616) (hb : b < 18446744073709551616) : (bits .andNot .u64 (a : Int) (b : Int) == 0) = flowsN a b := by
  rw [u64_andNot_nat a b ha hb]
  have e : 18446744073709551615 - b = 2 ^ 64 - (b + 1) := by omega
  rw [Bool.eq_iff_iff, flowsN]
  simp only [beq_iff_eq]
  constructor
  · intro h
    have h0 : a &&& (18446744073709551615 - b) = 0 := by omega
    apply Nat.eq_of_testBit_eq
    intro i
    rw [Nat.testBit_or]
    have := congrArg (Nat.testBit · i) h0
    simp only [Nat.testBit_and, Nat.zero_testBit] at this
    rw [e, Nat.testBit_two_pow_sub_succ (by omega)] at this
    by_cases hi : i < 64
    · cases ha' : a.testBit i <;> cases hb' : b.testBit i <;> simp_all
    · have h1 : a.testBit i = false := Nat.testBit_lt_two_pow (Nat.lt_of_lt_of_le ha (by
        have : (2 : Nat) ^ 64 ≤ 2 ^ i := Nat.pow_le_pow_right (by omega) (by omega)
        omega))
      simp [h1]
  · intro h
    have h0 : a &&& (18446744073709551615 - b) = 0 := by
      apply Nat.eq_of_testBit_eq
      intro i
      have := congrArg (Nat.testBit · i) h
      simp only [Nat.testBit_or] at this
      rw [Nat.testBit_and, e, Nat.testBit_two_pow_sub_succ (by omega), Nat.zero_testBit]
      cases ha' : a.testBit i <;> cases hb' : b.testBit i <;> simp_all
    rw [h0]; rfl

theorem or_lt (a b : Nat) (ha : a < 18446744073709551616) (hb : b < 18446744073709551616) : a ||| b < 18446744073709551616 := Nat.or_lt_two_pow (n := 64) ha hb
theorem and_lt (a b : Nat) (ha : a < 18446744073709551616) : a &&& b < 18446744073709551616 := Nat.lt_of_le_of_lt Nat.and_le_left ha



theorem div_pow_succ (l k : Nat) : l / 2 ^ k / 2 = l / 2 ^ (k + 1) := by rw [Nat.div_div_eq_div_mul, Nat.pow_succ]

theorem testBit_ge {a i : Nat} (ha : a < 18446744073709551616) (hi : 64 ≤ i) : a.testBit i = false := Nat.testBit_lt_two_pow (Nat.lt_of_lt_of_le ha (by
  have : (2 : Nat) ^ 64 ≤ 2 ^ i := Nat.pow_le_pow_right (by omega) (by omega)
  omega))

theorem flowsN_iff {a b : Nat} (ha : a < 18446744073709551616) : flowsN a b = true ↔ ∀ i, i < 64 → a.testBit i = true → b.testBit i = true := by
  rw [flowsN, beq_iff_eq]
  constructor
  · intro h i _ hi
    rw [← h, Nat.testBit_or, hi]; rfl
  · intro h
    apply Nat.eq_of_testBit_eq
    intro i
    rw [Nat.testBit_or]
    by_cases hi : i < 64
    · have := h i hi
      cases ha' : a.testBit i <;> cases hb' : b.testBit i <;> simp_all
    · rw [testBit_ge ha (by omega)]; simp

theorem mod_step (x k : Nat) : x % 2 ^ (k + 1) = x % 2 ^ k + (if x.testBit k then 2 ^ k else 0) := by
  rw [Nat.pow_succ, Nat.mod_mul, Nat.testBit_eq_decide_div_mod_eq]
  rcases Nat.mod_two_eq_zero_or_one (x / 2 ^ k) with h | h <;> simp [h]

theorem mod_step_lt (x k : Nat) (hk : k < 64) : x % 2 ^ k + 2 ^ k < 18446744073709551616 := by
  have h1 := Nat.mod_lt x (Nat.two_pow_pos k)
  have h2 : (2 : Nat) ^ (k + 1) ≤ 2 ^ 64 := Nat.pow_le_pow_right (by omega) (by omega)
  rw [Nat.pow_succ] at h2
  have : (2 : Nat) ^ 64 = 18446744073709551616 := by decide
  omega

theorem mod_64 {x : Nat} (hx : x < 18446744073709551616) : x % 2 ^ 64 = x := Nat.mod_eq_of_lt hx

/-- less is said: some slots, blocks under new names -/
theorem wk {C : Ctx} {N : Nat} {s s' : St} (hC : Pure C N) (σ : List (Nat × Nat)) (L : List Nat) (n : Nat) (e : canonWith σ L n s = s' := by rfl) (h : okR n σ = true := by rfl) : Weak C s s' := weak_canon σ L n h (fun i hi => absurd hi (by rw [hC.m]; omega)) e

/-- a contract of a function that only computes -/
theorem acalls_lits {P : Program} {f : FuncId} {vs : List Value} {v : Value} (h0 : Callable P f) (h : ∀ w, Calls P f vs.toArray w fun e w' => e = .returned v ∧ w = w') : ACalls P f (vs.map .lit) (.lit v) := by
  refine ⟨h0, fun im w us hlt hr => ?_⟩
  have key : ∀ (vs us : List Value), RdIL im w (vs.map .lit) us → us = vs := by
    intro vs
    induction vs with
    | nil => intro us h; exact h
    | cons v vs ih =>
      intro us h
      simp only [List.map_cons, RdIL] at h
      obtain ⟨u, rest, rfl, h1, h2⟩ := h
      rw [ih rest h2, show u = v from h1]
  rw [key vs us hr]
  exact (h w).mono fun e w' ⟨h1, h2⟩ => ⟨v, im, h1, rfl, fun b hb => hb, fun b hb => .inl hb, fun b hb => by subst h2; exact hlt b hb, by subst h2; exact Below.refl _ _⟩

end Go.Proofs.Ytkgnnnehmnoleaa
