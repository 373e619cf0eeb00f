/- Labels: what the label functions answer. -/
import Derived.Test.YtkgnnnehmnoleaaLabP
import Derived.Test.YtkgnnnehmnoleaaCodeA
namespace Go.Proofs.Ytkgnnnehmnoleaa
set_option linter.unusedVariables false
open Go.RowKit

/-- a label as a value -/
abbrev labV (a : Nat) : AV := .lit (.int .u64 (a : Nat))

theorem u64_nat (n : Nat) (h : n < 18446744073709551616) : IntKind.u64.wrap (n : Int) = n := IntWalk.u64_in _ (by omega)

theorem flows_a (a b : Nat) (ha : a < 18446744073709551616) (hb : b < 18446744073709551616) : ACalls Try.prog 24 [labV a, labV b] (.lit (.bool (flowsN a b))) := by
  rw [← andNot_zero a b ha hb]
  refine acalls_of code_label_Flows (by simp [fn_label_Flows]) fun C hC => ?_
  refine walk ?_
  exact ⟨_, _, rfl, rfl, Sub.refl _⟩

theorem join_a (a b : Nat) (ha : a < 18446744073709551616) (hb : b < 18446744073709551616) : ACalls Try.prog 35 [labV a, labV b] (labV (a ||| b)) := by
  have e : bits .or .u64 (a : Int) (b : Int) = ((a ||| b : Nat) : Int) := u64_or_nat a b ha hb
  refine acalls_of code_label_Join (by simp [fn_label_Join]) fun C hC => ?_
  refine walk ?_
  refine ⟨_, _, rfl, rfl, ?_⟩
  rw [labV, ← e]
  exact Sub.refl _

theorem bit_a (n : Nat) (hn : n ≤ 63) : ACalls Try.prog 32 [.lit (.int .i64 n)] (labV (2 ^ n)) := by
  refine acalls_of code_scrimref01_Bit (by simp [fn_scrimref01_Bit]) fun C hC => ?_
  refine walk ?_
  refine aw_loop (X := Nat) (fun k => ⟨[(0, .lit (.int .i64 n)), (2, .lit (.int .u64 0)), (3, .lit (.int .u64 (2 ^ k : Nat))), (4, .lit (.int .i64 k))], [], 0⟩) (fun k => k ≤ n) (fun k => n - k) 0 (wk hC [] [0, 2, 3, 4] 0) (Nat.zero_le _) ?_
  intro k hk
  by_cases hlt : k < n
  · refine walk ?_
    refine ⟨k + 1, by omega, by omega, wk hC [] [0, 2, 3, 4] 0 ?_⟩
    have e : IntKind.u64.wrap ((2 ^ k : Nat) * 2) = (2 ^ (k + 1) : Nat) := by
      have : 2 ^ (k + 1) ≤ 2 ^ 63 := Nat.pow_le_pow_right (by omega) (by omega)
      rw [Nat.pow_succ] at this ⊢
      rw [IntWalk.u64_in _ (by omega)]; omega
    rw [← e]; rfl
  · refine walk ?_
    obtain rfl : k = n := by omega
    exact ⟨_, _, rfl, rfl, Sub.refl _⟩

theorem has_a (a n : Nat) (ha : a < 18446744073709551616) (hn : n ≤ 63) : ACalls Try.prog 31 [labV a, .lit (.int .i64 n)] (.lit (.bool (a.testBit n))) := by
  refine acalls_of code_scrimref01_Has (by simp [fn_scrimref01_Has]) fun C hC => ?_
  refine walk ?_
  refine aw_loop (X := Nat) (fun k => ⟨[(0, labV (a / 2 ^ k)), (1, .lit (.int .i64 n)), (4, .lit (.bool false)), (5, .lit (.int .i64 k))], [], 0⟩) (fun k => k ≤ n) (fun k => n - k) 0 (wk hC [] [0, 1, 4, 5] 0 (by simp; rfl)) (Nat.zero_le _) ?_
  intro k hk
  have hlt' : a / 2 ^ k < 18446744073709551616 := Nat.lt_of_le_of_lt (Nat.div_le_self _ _) ha
  by_cases hlt : k < n
  · refine walk ?_
    refine ⟨k + 1, by omega, by omega, wk hC [] [0, 1, 4, 5] 0 ?_⟩
    have e : IntKind.u64.wrap (((a / 2 ^ k : Nat) : Int).tdiv 2) = ((a / 2 ^ (k + 1) : Nat) : Int) := by
      have h1 : ((a / 2 ^ k : Nat) : Int).tdiv 2 = ((a / 2 ^ k / 2 : Nat) : Int) := rfl
      rw [h1, div_pow_succ]
      exact u64_nat _ (Nat.lt_of_le_of_lt (Nat.div_le_self _ _) ha)
    have e' : labV (a / 2 ^ (k + 1)) = .lit (.int .u64 (IntKind.u64.wrap (((a / 2 ^ k : Nat) : Int).tdiv 2))) := by rw [e]
    rw [e']; rfl
  · refine walk ?_
    obtain rfl : k = n := by omega
    refine ⟨_, _, rfl, rfl, ?_⟩
    have e : (((a / 2 ^ k : Nat) : Int).tmod 2 == 1) = a.testBit k := by
      have h1 : ((a / 2 ^ k : Nat) : Int).tmod 2 = ((a / 2 ^ k % 2 : Nat) : Int) := rfl
      rw [h1, Nat.testBit_eq_decide_div_mod_eq, Bool.eq_iff_iff]
      simp only [beq_iff_eq, decide_eq_true_eq]
      omega
    rw [← e]
    exact Sub.refl _

/-- the labels' order, by bits, as far as bit k -/
def subK (a b k : Nat) : Prop := ∀ i, i < k → a.testBit i = true → b.testBit i = true

theorem rflows_a (a b : Nat) (ha : a < 18446744073709551616) (hb : b < 18446744073709551616) : ACalls Try.prog 21 [labV a, labV b] (.lit (.bool (flowsN a b))) := by
  refine acalls_of code_scrimref01_Flows (by simp [fn_scrimref01_Flows]) fun C hC => ?_
  refine walk ?_
  refine aw_loop (X := Nat) (fun k => ⟨[(0, labV a), (1, labV b), (4, .lit (.bool false)), (5, .lit (.int .i64 k))], [], 0⟩) (fun k => k ≤ 64 ∧ subK a b k) (fun k => 64 - k) 0 (wk hC [] [0, 1, 4, 5] 0) ⟨Nat.zero_le _, fun i hi => by omega⟩ ?_
  rintro k ⟨hk, hs⟩
  by_cases hlt : k < 64
  · refine walk ?_
    refine aw_reg (rrun ?_)
    refine r_call (has_a a k ha (by omega)) ?_
    cases h1 : a.testBit k
    · refine rrun ?_
      refine rg_nil ⟨rfl, ?_⟩
      refine walk ?_
      refine ⟨k + 1, by omega, ⟨by omega, fun i hi hi' => ?_⟩, wk hC [] [0, 1, 4, 5] 0⟩
      by_cases e : i = k
      · subst e; rw [h1] at hi'; cases hi'
      · exact hs i (by omega) hi'
    · refine rrun ?_
      refine r_call (has_a b k hb (by omega)) ?_
      cases h2 : b.testBit k
      · refine rrun ?_
        refine rg_nil ⟨rfl, ?_⟩
        refine walk ?_
        have : flowsN a b = false := by
          cases hf : flowsN a b
          · rfl
          · have := (flowsN_iff ha).1 hf k hlt h1; rw [h2] at this; cases this
        rw [this]
        exact ⟨_, _, rfl, rfl, Sub.refl _⟩
      · refine rrun ?_
        refine rg_nil ⟨rfl, ?_⟩
        refine walk ?_
        refine ⟨k + 1, by omega, ⟨by omega, fun i hi hi' => ?_⟩, wk hC [] [0, 1, 4, 5] 0⟩
        by_cases e : i = k
        · subst e; exact h2
        · exact hs i (by omega) hi'
  · refine walk ?_
    obtain rfl : k = 64 := by omega
    have : flowsN a b = true := (flowsN_iff ha).2 hs
    rw [this]
    exact ⟨_, _, rfl, rfl, Sub.refl _⟩

theorem rmeet_a (a b : Nat) (ha : a < 18446744073709551616) (hb : b < 18446744073709551616) : ACalls Try.prog 19 [labV a, labV b] (labV (a &&& b)) := by
  refine acalls_of code_scrimref01_Meet (by simp [fn_scrimref01_Meet]) fun C hC => ?_
  refine walk ?_
  refine aw_loop (X := Nat) (fun k => ⟨[(0, labV a), (1, labV b), (4, .lit (.int .u64 0)), (5, labV ((a &&& b) % 2 ^ k)), (6, .lit (.int .i64 k))], [], 0⟩) (fun k => k ≤ 64) (fun k => 64 - k) 0 (wk hC [] [0, 1, 4, 5, 6] 0 (by rw [Nat.pow_zero, Nat.mod_one]; rfl)) (Nat.zero_le _) ?_
  intro k hk
  by_cases hlt : k < 64
  · refine walk ?_
    have hbit : (a &&& b).testBit k = true → labV ((a &&& b) % 2 ^ (k + 1)) = .lit (.int .u64 (IntKind.u64.wrap (((a &&& b) % 2 ^ k : Nat) + (2 ^ k : Nat)))) := fun h => by
      rw [mod_step, if_pos h]
      have := mod_step_lt (a &&& b) k hlt
      rw [show (((a &&& b) % 2 ^ k : Nat) : Int) + ((2 ^ k : Nat) : Int) = (((a &&& b) % 2 ^ k + 2 ^ k : Nat) : Int) from rfl, u64_nat _ (by omega)]
    have hno : (a &&& b).testBit k = false → (a &&& b) % 2 ^ (k + 1) = (a &&& b) % 2 ^ k := fun h => by rw [mod_step, h]; simp
    refine aw_reg (rrun ?_)
    refine r_call (has_a a k ha (by omega)) ?_
    cases h1 : a.testBit k
    · refine rrun ?_
      refine rg_nil ⟨rfl, ?_⟩
      refine walk ?_
      refine ⟨k + 1, by omega, by omega, wk hC [] [0, 1, 4, 5, 6] 0 ?_⟩
      rw [hno (by rw [Nat.testBit_and, h1]; rfl)]; rfl
    · refine rrun ?_
      refine r_call (has_a b k hb (by omega)) ?_
      cases h2 : b.testBit k
      · refine rrun ?_
        refine rg_nil ⟨rfl, ?_⟩
        refine walk ?_
        refine ⟨k + 1, by omega, by omega, wk hC [] [0, 1, 4, 5, 6] 0 ?_⟩
        rw [hno (by rw [Nat.testBit_and, h1, h2]; rfl)]; rfl
      · refine rrun ?_
        refine rg_nil ⟨rfl, ?_⟩
        refine walk ?_
        refine aw_reg (rrun ?_)
        refine r_call (bit_a k (by omega)) (rrun ?_)
        refine rg_nil ⟨rfl, ?_⟩
        refine walk ?_
        refine ⟨k + 1, by omega, by omega, wk hC [] [0, 1, 4, 5, 6] 0 ?_⟩
        rw [hbit (by rw [Nat.testBit_and, h1, h2]; rfl)]; rfl
  · refine walk ?_
    obtain rfl : k = 64 := by omega
    rw [mod_64 (and_lt a b ha)]
    exact ⟨_, _, rfl, rfl, Sub.refl _⟩
end Go.Proofs.Ytkgnnnehmnoleaa
