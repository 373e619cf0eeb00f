/- The types of arrays, in this form; arguments that are arrays, opened. -/
import Derived.Test.YtkgnnnehmnoleaaAbsS
import Derived.Test.YtkgnnnehmnoleaaProg
import Derived.ProofKit
import Derived.OpenShut
import Derived.ShutString
import Derived.ChangeOld
import Derived.SizedLaws
import Derived.KernelRfl
namespace Go.Proofs.Ytkgnnnehmnoleaa
set_option linter.unusedVariables false
open Go.RowKit
theorem arrT : ArrT Try.prog 26 32 29 23 24 30 27 22 3 4 51 :=
  ⟨⟨_, _, _, Try.underlying26, rfl, rfl, rfl, rfl, rfl, rfl⟩, ⟨_, _, _, _, _, Try.underlying32, rfl, rfl, rfl, rfl, rfl, rfl, rfl, rfl, rfl, rfl⟩, ⟨_, _, _, Try.underlying29, rfl, rfl, rfl, rfl, rfl, rfl⟩,
    Try.underlying23, Try.underlying24, Try.underlying30, Try.underlying27, Try.underlying22, Try.underlying3, Try.underlying4, Try.underlying51,
    ⟨by kernel_rfl, by kernel_rfl, by kernel_rfl, by kernel_rfl, by kernel_rfl, by kernel_rfl, by kernel_rfl, by kernel_rfl, by kernel_rfl, by kernel_rfl, by kernel_rfl⟩,
    ⟨of_decide_eq_true (by kernel_rfl), of_decide_eq_true (by kernel_rfl), of_decide_eq_true (by kernel_rfl), of_decide_eq_true (by kernel_rfl)⟩⟩

abbrev arrTs : List TypeId := [26, 32, 29, 23, 24, 30, 27, 22, 3, 4, 51]
theorem arrTs_closed : closedB Try.prog arrTs = true := by kernel_rfl

section
variable {H : Type} {enc : TypeId × Value → H} {W : World} {held : Bool}
theorem open_arr {fuel : Nat} {c : Array Value} {x : DataW H × List MemPlace} (h : DataW.trod enc Try.prog W 0 (fun _ => true) held fuel 26 c.toList = some x) (hw : ∀ k ∈ x.1.weights Try.prog 26, k ≤ reachBytes) :
    ∃ A : Arr, RdI (fun b => b < W.heap.size) W (.agg (arrV A)) (.agg c) ∧ arrOK A := by
  obtain ⟨avs, r1, r2, _, r4⟩ := trod_typ arrTs_closed fuel _ _ x (by simp [arrTs]) h hw
  obtain ⟨A, rfl, ok⟩ := typ_arr arrT fuel avs r4
  exact ⟨A, ⟨c.toList, by simp, r2, by rw [← arrR_eq]; exact r1⟩, ok⟩
end

theorem typ_cell {P : Program} {tA tC tN tI tCs tAs tU tU64 tI64 tB tU32 : TypeId} (T : ArrT P tA tC tN tI tCs tAs tU tU64 tI64 tB tU32) (hb : P.bytesOf tC ≤ reachBytes) {n : Nat} {avs : List AV} (h : Typ P n tC avs) : ∃ c : Cell, avs = cellR c ∧ cellOK c := by
  obtain ⟨s1, s2, s3, s4, s5, s6, s7, s8, s9, s10, s11⟩ := T.sz
  obtain ⟨f0, f1, f2, hu, t0, t1, t2, o0, o1, o2⟩ := T.arr
  have hT : Typ P (n + 2) tA [.lit (.int .u64 0), .sl 1 [], .sl 7 [avs]] := by
    unfold Typ
    simp only [hu]
    refine ⟨by rw [s1]; rfl, ?_⟩
    intro i f hi
    match i, hi with
    | 0, hi =>
      obtain rfl : f0 = f := by simpa using hi
      rw [t0, o0, s8]
      unfold Typ
      simp only [T.u64]
      exact ⟨0, rfl, by decide⟩
    | 1, hi =>
      obtain rfl : f1 = f := by simpa using hi
      rw [t1, o1, s4]
      unfold Typ
      simp only [T.ints]
      exact ⟨[], by rw [s9]; rfl, by simp, by simp⟩
    | 2, hi =>
      obtain rfl : f2 = f := by simpa using hi
      rw [t2, o2, s5]
      unfold Typ
      simp only [T.cells]
      refine ⟨[avs], by rw [s2]; rfl, by simpa using hb, fun x hx => ?_⟩
      obtain rfl : x = avs := by simpa using hx
      exact h
    | k + 3, hi => simp at hi
  obtain ⟨A, hA, ok⟩ := typ_arr T (n + 2) _ hT
  obtain ⟨s, sh, cs⟩ := A
  simp only [arrR, List.cons.injEq, AV.sl.injEq, true_and, and_true] at hA
  obtain ⟨_, _, hcs⟩ := hA
  match cs, hcs with
  | [c], hcs =>
    simp only [cellsR, List.cons.injEq, and_true] at hcs
    simp only [arrOK, cellsOK] at ok
    exact ⟨c, hcs, ok.2.2.2.2.1⟩
  | [], hcs => simp [cellsR] at hcs
  | _ :: _ :: _, hcs => simp [cellsR] at hcs

section
variable {H : Type} {enc : TypeId × Value → H} {W : World} {held : Bool}
theorem open_cell {fuel : Nat} {c : Array Value} {x : DataW H × List MemPlace} (h : DataW.trod enc Try.prog W 0 (fun _ => true) held fuel 32 c.toList = some x) (hw : ∀ k ∈ x.1.weights Try.prog 32, k ≤ reachBytes) :
    ∃ A : Cell, RdI (fun b => b < W.heap.size) W (.agg (cellV A)) (.agg c) ∧ cellOK A := by
  obtain ⟨avs, r1, r2, _, r4⟩ := trod_typ arrTs_closed fuel _ _ x (by simp [arrTs]) h hw
  obtain ⟨A, rfl, ok⟩ := typ_cell arrT (of_decide_eq_true (by kernel_rfl)) r4
  exact ⟨A, ⟨c.toList, by simp, r2, by rw [← cellR_eq]; exact r1⟩, ok⟩
end

theorem lab_nat {z : Int} (h : (Lit.int .u64 z).wf = true) : ∃ n : Nat, z = (n : Int) ∧ n < 18446744073709551616 := by
  have h' : IntKind.u64.min ≤ z ∧ z ≤ IntKind.u64.max := by simpa [Lit.wf] using h
  have h1 : IntKind.u64.min = 0 := by decide
  have h2 : IntKind.u64.max = 18446744073709551615 := by decide
  exact ⟨z.toNat, by omega, by omega⟩
end Go.Proofs.Ytkgnnnehmnoleaa
