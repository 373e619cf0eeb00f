/- The laws of views: they answer true. -/
import Derived.Test.YtmbigpjokpdnkaaNumA
import Derived.Test.YtmbigpjokpdnkaaRefHP
namespace Go.Proofs.Ytmbigpjokpdnkaa
set_option linter.unusedVariables false
open Go.RowKit

theorem alikeA_iff {o : Nat} (ho : o < 18446744073709551616) {A B : Arr} (hA : okA A) (hB : okA B) : alikeA o A B = true ↔ hideA o A = hideA o B := by
  rw [alikeA_hide o ho A B hA.wf hB.wf, sameA_iff]
theorem alikeA_refl {o : Nat} (ho : o < 18446744073709551616) {A : Arr} (hA : okA A) : alikeA o A A = true := (alikeA_iff ho hA hA).2 rfl
theorem alikeA_symm {o : Nat} (ho : o < 18446744073709551616) {A B : Arr} (hA : okA A) (hB : okA B) : alikeA o B A = alikeA o A B := by
  rw [Bool.eq_iff_iff, alikeA_iff ho hA hB, alikeA_iff ho hB hA]
  exact ⟨Eq.symm, Eq.symm⟩
theorem alikeA_trans {o : Nat} (ho : o < 18446744073709551616) {A B D : Arr} (hA : okA A) (hB : okA B) (hD : okA D) (h1 : alikeA o A B = true) (h2 : alikeA o B D = true) : alikeA o A D = true :=
  (alikeA_iff ho hA hD).2 (((alikeA_iff ho hA hB).1 h1).trans ((alikeA_iff ho hB hD).1 h2))

theorem few_at (A : Arr) (hA : arrOK A) {b : Bool} (h : fewP A = b) : ACalls Try.prog 7 [.agg (arrV A)] (.lit (.bool b)) := h ▸ few_a A hA
end Go.Proofs.Ytmbigpjokpdnkaa
