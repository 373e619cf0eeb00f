/- The law ViewHides answers true. -/
import Derived.Test.YtkgnnnehmnoleaaViewL
namespace Go.Proofs.Ytkgnnnehmnoleaa
set_option linter.unusedVariables false
open Go.RowKit

mutual
theorem hideA_idem (o : Nat) : ∀ A : Arr, hideA o (hideA o A) = hideA o A
  | .mk s sh cs => by
    simp only [hideA]
    split
    · rename_i h
      simp only [hideA, if_pos h, hideCs_idem o cs]
    · simp [hideA, hideCs]
theorem hideCs_idem (o : Nat) : ∀ cs : List Cell, hideCs o (hideCs o cs) = hideCs o cs
  | [] => by simp [hideCs]
  | c :: cs => by simp only [hideCs, hideC_idem o c, hideCs_idem o cs]
theorem hideC_idem (o : Nat) : ∀ c : Cell, hideC o (hideC o c) = hideC o c
  | .mk l k n ch ins => by
    simp only [hideC]
    split
    · rename_i h
      simp only [hideC, if_pos h, hideAs_idem o ins]
    · simp [hideC, hideAs]
theorem hideAs_idem (o : Nat) : ∀ xs : List Arr, hideAs o (hideAs o xs) = hideAs o xs
  | [] => by simp [hideAs]
  | a :: xs => by simp only [hideAs, hideA_idem o a, hideAs_idem o xs]
end

mutual
theorem arrOK.hide (o : Nat) : ∀ {A : Arr}, arrOK A → arrOK (hideA o A)
  | .mk s sh cs, h => by
    simp only [arrOK] at h
    simp only [hideA]
    split
    · simp only [arrOK, hideCs_map, List.length_map]
      exact ⟨h.1, h.2.1, h.2.2.1, h.2.2.2.1, by rw [← hideCs_map]; exact cellsOK.hide o h.2.2.2.2⟩
    · simp [arrOK, cellsOK, secretN_lt]
theorem cellsOK.hide (o : Nat) : ∀ {cs : List Cell}, cellsOK cs → cellsOK (hideCs o cs)
  | [], h => by simp [cellsOK, hideCs]
  | c :: cs, h => by
    simp only [cellsOK] at h
    simp only [hideCs, cellsOK]
    exact ⟨cellOK.hide o h.1, cellsOK.hide o h.2⟩
theorem cellOK.hide (o : Nat) : ∀ {c : Cell}, cellOK c → cellOK (hideC o c)
  | .mk l k n c ins, h => by
    simp only [cellOK] at h
    simp only [hideC]
    split
    · simp only [cellOK, hideAs_map, List.length_map]
      exact ⟨h.1, h.2.1, h.2.2.1, h.2.2.2.1, h.2.2.2.2.1, by rw [← hideAs_map]; exact arrsOK.hide o h.2.2.2.2.2⟩
    · have : (Lit.int .i64 0).wf = true := by decide
      simp [cellOK, arrsOK, numOK, secretN_lt, this]
theorem arrsOK.hide (o : Nat) : ∀ {xs : List Arr}, arrsOK xs → arrsOK (hideAs o xs)
  | [], h => by simp [arrsOK, hideAs]
  | a :: xs, h => by
    simp only [arrsOK] at h
    simp only [hideAs, arrsOK]
    exact ⟨arrOK.hide o h.1, arrsOK.hide o h.2⟩
end

theorem few1_at (c : Cell) (h : arrOK (.mk 0 [] [c])) {b : Bool} (hb : fewP (.mk 0 [] [c]) = b) : ACalls Try.prog 8 [.agg [labV 0, .sl 1 [], .sl 7 [cellV c]]] (.lit (.bool b)) := by
  have := few_at (.mk 0 [] [c]) h hb
  have e : arrV (.mk 0 [] [c]) = [labV 0, .sl 1 [], .sl 7 [cellV c]] := by simp [arrV, Arr.s, Arr.shape, Arr.cells, intsA, cellR_eq]
  rw [← e]; exact this
theorem same_at (A : Arr) (h : arrOK A) : ACalls Try.prog 11 [.agg (arrV A), .agg (arrV A)] (.lit (.bool true)) := by
  have := same_a A A h h
  rw [sameA_refl] at this; exact this
theorem sameCell_at (A : Cell) (h : cellOK A) : ACalls Try.prog 13 [.agg (cellV A), .agg (cellV A)] (.lit (.bool true)) := by
  have := sameCell_a A A h h
  rw [sameC_refl] at this; exact this

theorem viewHides_a (A : Arr) (c : Cell) (o : Nat) (hA : arrOK A) (hc : cellOK c) (ho : o < 18446744073709551616) : ACalls Try.prog 3 [.agg (arrV A), .agg (cellV c), labV o] (.lit (.bool true)) := by
  have h1 : arrOK (.mk 0 [] [c]) := ⟨by omega, by simp, by simp, by simp [reachBytes], hc, trivial⟩
  refine acalls_of code_scrimlaw09_ViewHides (by simp [fn_scrimlaw09_ViewHides]) fun C hC => ?_
  refine walk ?_
  refine aw_reg (rrun ?_)
  cases fA : fewP A
  · refine r_call (few_at A hA fA) (rrun ?_)
    refine rg_nil ⟨rfl, ?_⟩
    refine walk ?_
    refine aw_reg (rrun ?_)
    refine r_call awake_a (rrun ?_)
    refine rg_nil ⟨rfl, ?_⟩
    refine walk ?_
    exact ⟨_, _, rfl, rfl, Sub.refl _⟩
  refine r_call (few_at A hA fA) (rrun ?_)
  refine r_rowlit ?_
  refine rrun ?_
  have kA := few_ok hA fA
  cases fB : fewP (.mk 0 [] [c])
  · refine r_callX false [2] (few1_at c h1 fB) (rrun ?_)
    refine rg_nil ⟨rfl, ?_⟩
    refine walk ?_
    refine aw_reg (rrun ?_)
    refine r_call awake_a (rrun ?_)
    refine rg_nil ⟨rfl, ?_⟩
    refine walk ?_
    exact ⟨_, _, rfl, rfl, Sub.refl _⟩
  have kc : okC c := ((few_ok h1 fB).2.2.2).1
  refine r_callX false [2] (few1_at c h1 fB) (rrun ?_)
  refine rg_nil ⟨rfl, ?_⟩
  refine walk ?_
  refine aw_reg (rrun ?_)
  refine r_call (viewHide_a o ho A kA) (rrun ?_)
  refine rg_nil ⟨rfl, ?_⟩
  refine walk ?_
  refine aw_reg (rrun ?_)
  refine r_call (refHide_a o ho A kA) (rrun ?_)
  refine r_call (same_at (hideA o A) (hA.hide o)) (rrun ?_)
  refine r_call (viewCell_a o ho c kc) (rrun ?_)
  refine r_call (refCell_a o ho c kc) (rrun ?_)
  refine r_call (sameCell_at (hideC o c) (hc.hide o)) (rrun ?_)
  have hh := viewHide_a o ho (hideA o A) (okA.hide o kA)
  rw [hideA_idem] at hh
  refine r_call hh (rrun ?_)
  refine r_call (same_at (hideA o A) (hA.hide o)) (rrun ?_)
  refine r_call awake_a (rrun ?_)
  refine rg_nil ⟨rfl, ?_⟩
  refine walk ?_
  exact ⟨_, _, rfl, rfl, Sub.refl _⟩
end Go.Proofs.Ytkgnnnehmnoleaa
