/- A pointer, asked whether it is nil. -/
import Derived.Test.YtfnbhkeilcbmjaaAbsZ
namespace Go.Proofs.Ytfnbhkeilcbmjaa
set_option linter.unusedVariables false
open Go.RowKit

theorem eqvP_run {P : Program} {w : World} {t e : TypeId} (hu : P.underlying t = some (.pointer e)) (a : Option Addr) : (binOp .eql t (.pointer a) (.pointer none)).run P w = .ok (.bool a.isNone) w := by
  have h : ∀ d, (Op.equalIn (d + 1) t (.pointer a) (.pointer none)).run P w = .ok a.isNone w := fun d => by
    cases a <;> simp [Op.equalIn, run_underlying hu]
  have h2 : (Op.equal t (.pointer a) (.pointer none)).run P w = .ok a.isNone w := h 9999
  simp [binOp, h2]

section
variable {P : Program} {st : St} {d : Option Nat} {g : Option (Nat × Bool)}
theorem q_eqvP0 {t e : TypeId} {x y : Operand} (hu : P.underlying t = some (.pointer e)) (hg : gOK st g) (hx : ev st x = .lit (.pointer none)) (hy : ev st y = .lit (.pointer none)) : Step P st ⟨⟨d, g, .eqv t false x y⟩, .lit (.bool true), [], [], 0⟩ :=
  step_val [] hg fun o C E ac w sx hlow R hr hh => by
    have h1 := lit_eval (hr x (by simp [AOp.opds])) hx
    have h2 := lit_eval (hr y (by simp [AOp.opds])) hy
    obtain ⟨dst, o, ty, pos, after, guard⟩ := o
    obtain ⟨t2, rfl⟩ := low_spec hlow
    refine ⟨_, ?_, rfl⟩
    have hq : (eqGuard .eql t x y (.pointer none) (.pointer none)).run P w = .ok () w := rfl
    simp only [execOp, h1, h2, Sem.run_bind, cond_false, hq, Result.andThen_ok, eqvP_run hu, Sem.run_pure]
    rfl

theorem q_eqvP1 {t e : TypeId} {x y : Operand} {id i off : Nat} (hu : P.underlying t = some (.pointer e)) (hg : gOK st g) (hx : ev st x = .optr id i off) (hy : ev st y = .lit (.pointer none)) : Step P st ⟨⟨d, g, .eqv t false x y⟩, .lit (.bool false), [], [], 0⟩ :=
  step_val [] hg fun o C E ac w sx hlow R hr hh => by
    have h1 := hr x (by simp [AOp.opds])
    rw [hx] at h1
    have h2 := lit_eval (hr y (by simp [AOp.opds])) hy
    obtain ⟨dst, o, ty, pos, after, guard⟩ := o
    obtain ⟨t2, rfl⟩ := low_spec hlow
    obtain ⟨_, b, _, e1⟩ := h1
    refine ⟨_, ?_, rfl⟩
    have hq : ∀ a, (eqGuard .eql t x y (.pointer a) (.pointer none)).run P w = .ok () w := fun a => rfl
    simp only [execOp, e1, h2, Sem.run_bind, cond_false, hq, Result.andThen_ok, eqvP_run hu, Sem.run_pure]
    rfl
end
end Go.Proofs.Ytfnbhkeilcbmjaa
