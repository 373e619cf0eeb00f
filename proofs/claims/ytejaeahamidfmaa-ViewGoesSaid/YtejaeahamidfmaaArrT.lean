/- The types of arrays, in this form; arguments that are arrays, opened. -/
import Derived.Test.YtejaeahamidfmaaAbsS
import Derived.Test.YtejaeahamidfmaaProg
import Derived.ProofKit
import Derived.OpenShut
import Derived.ShutString
import Derived.ChangeOld
import Derived.SizedLaws
import Derived.KernelRfl
namespace Go.Proofs.Ytejaeahamidfmaa
set_option linter.unusedVariables false
open Go.RowKit
theorem arrT : ArrT Try.prog 26 32 29 23 24 30 27 22 3 4 117 :=
  ⟨⟨_, _, _, Try.underlying26, rfl, rfl, rfl, rfl, rfl, rfl⟩, ⟨_, _, _, _, _, Try.underlying32, rfl, rfl, rfl, rfl, rfl, rfl, rfl, rfl, rfl, rfl⟩, ⟨_, _, _, Try.underlying29, rfl, rfl, rfl, rfl, rfl, rfl⟩,
    Try.underlying23, Try.underlying24, Try.underlying30, Try.underlying27, Try.underlying22, Try.underlying3, Try.underlying4, Try.underlying117,
    ⟨by kernel_rfl, by kernel_rfl, by kernel_rfl, by kernel_rfl, by kernel_rfl, by kernel_rfl, by kernel_rfl, by kernel_rfl, by kernel_rfl, by kernel_rfl, by kernel_rfl⟩,
    ⟨of_decide_eq_true (by kernel_rfl), of_decide_eq_true (by kernel_rfl), of_decide_eq_true (by kernel_rfl), of_decide_eq_true (by kernel_rfl)⟩⟩

abbrev arrTs : List TypeId := [26, 32, 29, 23, 24, 30, 27, 22, 3, 4, 117]
theorem arrTs_closed : closedB Try.prog arrTs = true := by kernel_rfl

section
variable {H : Type} {enc : TypeId × Value → H} {W : World} {held : Bool}
theorem open_arr {fuel : Nat} {c : Array Value} {x : DataW H × List MemPlace} (h : DataW.trod enc Try.prog W 0 (fun _ => true) held fuel 26 c.toList = some x) (hw : ∀ k ∈ x.1.weights Try.prog 26, k ≤ reachBytes) :
    ∃ A : Arr, RdI (fun b => b < W.heap.size) W (.agg (arrV A)) (.agg c) ∧ arrOK A := by
  obtain ⟨avs, r1, r2, _, r4⟩ := trod_typ arrTs_closed fuel _ _ x (by simp [arrTs]) h hw
  obtain ⟨A, rfl, ok⟩ := typ_arr arrT fuel avs r4
  exact ⟨A, ⟨c.toList, by simp, r2, by rw [← arrR_eq]; exact r1⟩, ok⟩
end

theorem lab_nat {z : Int} (h : (Lit.int .u64 z).wf = true) : ∃ n : Nat, z = (n : Int) ∧ n < 18446744073709551616 := by
  have h' : IntKind.u64.min ≤ z ∧ z ≤ IntKind.u64.max := by simpa [Lit.wf] using h
  have h1 : IntKind.u64.min = 0 := by decide
  have h2 : IntKind.u64.max = 18446744073709551615 := by decide
  exact ⟨z.toNat, by omega, by omega⟩
end Go.Proofs.Ytejaeahamidfmaa
