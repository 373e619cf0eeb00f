/- The laws of views: they answer true. -/
import Derived.Test.YtkgnnnehmnoleaaNumA
import Derived.Test.YtkgnnnehmnoleaaRefHP
namespace Go.Proofs.Ytkgnnnehmnoleaa
set_option linter.unusedVariables false
open Go.RowKit

theorem alikeA_iff {o : Nat} (ho : o < 18446744073709551616) {A B : Arr} (hA : okA A) (hB : okA B) : alikeA o A B = true ↔ hideA o A = hideA o B := by
  rw [alikeA_hide o ho A B hA.wf hB.wf, sameA_iff]
theorem alikeA_refl {o : Nat} (ho : o < 18446744073709551616) {A : Arr} (hA : okA A) : alikeA o A A = true := (alikeA_iff ho hA hA).2 rfl
theorem alikeA_symm {o : Nat} (ho : o < 18446744073709551616) {A B : Arr} (hA : okA A) (hB : okA B) : alikeA o B A = alikeA o A B := by
  rw [Bool.eq_iff_iff, alikeA_iff ho hA hB, alikeA_iff ho hB hA]
  exact ⟨Eq.symm, Eq.symm⟩
theorem alikeA_trans {o : Nat} (ho : o < 18446744073709551616) {A B D : Arr} (hA : okA A) (hB : okA B) (hD : okA D) (h1 : alikeA o A B = true) (h2 : alikeA o B D = true) : alikeA o A D = true :=
  (alikeA_iff ho hA hD).2 (((alikeA_iff ho hA hB).1 h1).trans ((alikeA_iff ho hB hD).1 h2))

theorem few_at (A : Arr) (hA : arrOK A) {b : Bool} (h : fewP A = b) : ACalls Try.prog 8 [.agg (arrV A)] (.lit (.bool b)) := h ▸ few_a A hA
theorem alike_at (A B : Arr) (o : Nat) (ho : o < 18446744073709551616) (hA : okA A) (hB : okA B) {b : Bool} (h : alikeA o A B = b) : ACalls Try.prog 16 [.agg (arrV A), .agg (arrV B), labV o] (.lit (.bool b)) := h ▸ viewAlike_a A B o ho hA hB

theorem viewGoes_a (A B D : Arr) (o : Nat) (hA : arrOK A) (hB : arrOK B) (hD : arrOK D) (ho : o < 18446744073709551616) : ACalls Try.prog 5 [.agg (arrV A), .agg (arrV B), .agg (arrV D), labV o] (.lit (.bool true)) := by
  cases fA : fewP A
  · refine acalls_of code_scrimlaw09_ViewGoes (by simp [fn_scrimlaw09_ViewGoes]) fun C hC => ?_
    refine walk ?_
    refine aw_reg (rrun ?_)
    refine r_call (few_at A hA fA) (rrun ?_)
    refine rg_nil ⟨rfl, ?_⟩
    refine walk ?_
    refine aw_reg (rrun ?_)
    refine r_call (awake_a) (rrun ?_)
    refine rg_nil ⟨rfl, ?_⟩
    refine walk ?_
    exact ⟨_, _, rfl, rfl, Sub.refl _⟩
  cases fB : fewP B
  · refine acalls_of code_scrimlaw09_ViewGoes (by simp [fn_scrimlaw09_ViewGoes]) fun C hC => ?_
    refine walk ?_
    refine aw_reg (rrun ?_)
    refine r_call (few_at A hA fA) (rrun ?_)
    refine r_call (few_at B hB fB) (rrun ?_)
    refine rg_nil ⟨rfl, ?_⟩
    refine walk ?_
    refine aw_reg (rrun ?_)
    refine r_call (awake_a) (rrun ?_)
    refine rg_nil ⟨rfl, ?_⟩
    refine walk ?_
    exact ⟨_, _, rfl, rfl, Sub.refl _⟩
  cases fD : fewP D
  · refine acalls_of code_scrimlaw09_ViewGoes (by simp [fn_scrimlaw09_ViewGoes]) fun C hC => ?_
    refine walk ?_
    refine aw_reg (rrun ?_)
    refine r_call (few_at A hA fA) (rrun ?_)
    refine r_call (few_at B hB fB) (rrun ?_)
    refine r_call (few_at D hD fD) (rrun ?_)
    refine rg_nil ⟨rfl, ?_⟩
    refine walk ?_
    refine aw_reg (rrun ?_)
    refine r_call (awake_a) (rrun ?_)
    refine rg_nil ⟨rfl, ?_⟩
    refine walk ?_
    exact ⟨_, _, rfl, rfl, Sub.refl _⟩
  have kA := few_ok hA fA
  have kB := few_ok hB fB
  have kD := few_ok hD fD
  have rA := alike_at A A o ho kA kA (alikeA_refl ho kA)
  cases b1 : alikeA o A B <;> cases b2 : alikeA o B D
  · have sA := alike_at B A o ho kB kA ((alikeA_symm ho kA kB).trans b1)
    refine acalls_of code_scrimlaw09_ViewGoes (by simp [fn_scrimlaw09_ViewGoes]) fun C hC => ?_
    refine walk ?_
    refine aw_reg (rrun ?_)
    refine r_call (few_at A hA fA) (rrun ?_)
    refine r_call (few_at B hB fB) (rrun ?_)
    refine r_call (few_at D hD fD) (rrun ?_)
    refine rg_nil ⟨rfl, ?_⟩
    refine walk ?_
    refine aw_reg (rrun ?_)
    refine r_call (alike_at A B o ho kA kB b1) (rrun ?_)
    refine r_call (alike_at B D o ho kB kD b2) (rrun ?_)
    refine rg_nil ⟨rfl, ?_⟩
    refine walk ?_
    refine aw_reg (rrun ?_)
    refine r_call (rA) (rrun ?_)
    refine r_call (sA) (rrun ?_)
    refine r_call (awake_a) (rrun ?_)
    refine rg_nil ⟨rfl, ?_⟩
    refine walk ?_
    exact ⟨_, _, rfl, rfl, Sub.refl _⟩
  · have sA := alike_at B A o ho kB kA ((alikeA_symm ho kA kB).trans b1)
    refine acalls_of code_scrimlaw09_ViewGoes (by simp [fn_scrimlaw09_ViewGoes]) fun C hC => ?_
    refine walk ?_
    refine aw_reg (rrun ?_)
    refine r_call (few_at A hA fA) (rrun ?_)
    refine r_call (few_at B hB fB) (rrun ?_)
    refine r_call (few_at D hD fD) (rrun ?_)
    refine rg_nil ⟨rfl, ?_⟩
    refine walk ?_
    refine aw_reg (rrun ?_)
    refine r_call (alike_at A B o ho kA kB b1) (rrun ?_)
    refine r_call (alike_at B D o ho kB kD b2) (rrun ?_)
    refine rg_nil ⟨rfl, ?_⟩
    refine walk ?_
    refine aw_reg (rrun ?_)
    refine r_call (rA) (rrun ?_)
    refine r_call (sA) (rrun ?_)
    refine r_call (awake_a) (rrun ?_)
    refine rg_nil ⟨rfl, ?_⟩
    refine walk ?_
    exact ⟨_, _, rfl, rfl, Sub.refl _⟩
  · have sA := alike_at B A o ho kB kA ((alikeA_symm ho kA kB).trans b1)
    refine acalls_of code_scrimlaw09_ViewGoes (by simp [fn_scrimlaw09_ViewGoes]) fun C hC => ?_
    refine walk ?_
    refine aw_reg (rrun ?_)
    refine r_call (few_at A hA fA) (rrun ?_)
    refine r_call (few_at B hB fB) (rrun ?_)
    refine r_call (few_at D hD fD) (rrun ?_)
    refine rg_nil ⟨rfl, ?_⟩
    refine walk ?_
    refine aw_reg (rrun ?_)
    refine r_call (alike_at A B o ho kA kB b1) (rrun ?_)
    refine r_call (alike_at B D o ho kB kD b2) (rrun ?_)
    refine rg_nil ⟨rfl, ?_⟩
    refine walk ?_
    refine aw_reg (rrun ?_)
    refine r_call (rA) (rrun ?_)
    refine r_call (sA) (rrun ?_)
    refine r_call (awake_a) (rrun ?_)
    refine rg_nil ⟨rfl, ?_⟩
    refine walk ?_
    exact ⟨_, _, rfl, rfl, Sub.refl _⟩
  · have sA := alike_at B A o ho kB kA ((alikeA_symm ho kA kB).trans b1)
    have tA := alike_at A D o ho kA kD (alikeA_trans ho kA kB kD b1 b2)
    refine acalls_of code_scrimlaw09_ViewGoes (by simp [fn_scrimlaw09_ViewGoes]) fun C hC => ?_
    refine walk ?_
    refine aw_reg (rrun ?_)
    refine r_call (few_at A hA fA) (rrun ?_)
    refine r_call (few_at B hB fB) (rrun ?_)
    refine r_call (few_at D hD fD) (rrun ?_)
    refine rg_nil ⟨rfl, ?_⟩
    refine walk ?_
    refine aw_reg (rrun ?_)
    refine r_call (alike_at A B o ho kA kB b1) (rrun ?_)
    refine r_call (alike_at B D o ho kB kD b2) (rrun ?_)
    refine rg_nil ⟨rfl, ?_⟩
    refine walk ?_
    refine aw_reg (rrun ?_)
    refine r_call (rA) (rrun ?_)
    refine r_call (sA) (rrun ?_)
    refine r_call (tA) (rrun ?_)
    refine r_call (awake_a) (rrun ?_)
    refine rg_nil ⟨rfl, ?_⟩
    refine walk ?_
    exact ⟨_, _, rfl, rfl, Sub.refl _⟩
end Go.Proofs.Ytkgnnnehmnoleaa
