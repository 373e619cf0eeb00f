/- Flow: few arrays; answers compared; deeds. -/
import Derived.Test.YtfnbhkeilcbmjaaFlowT
import Derived.Test.YtfnbhkeilcbmjaaArrG
namespace Go.Proofs.Ytfnbhkeilcbmjaa
set_option linter.unusedVariables false
open Go.RowKit

def fewK (c : Cfg) (k : Nat) : Bool := (c.ins k).length ≤ 20 && ((c.dr k).length ≤ 60 && (c.ins k).all goodA)
def few25 (c : Cfg) : Bool := (List.range 8).all (fewK c)
theorem few25_no {c : Cfg} {k : Nat} (hk : k < 8) (h : fewK c k = false) : few25 c = false := by
  cases hf : few25 c with
  | false => rfl
  | true => rw [few25, List.all_eq_true] at hf; rw [hf k (by simp; omega)] at h; cases h
theorem few25_yes {c : Cfg} (h : ∀ k, k < 8 → fewK c k = true) : few25 c = true := by
  rw [few25, List.all_eq_true]; intro k hk; exact h k (by simpa using hk)
theorem all_no {l : List Arr} {k : Nat} {A : Arr} (h : l[k]? = some A) (hg : goodA A = false) : l.all goodA = false := by
  cases hf : l.all goodA with
  | false => rfl
  | true => rw [List.all_eq_true] at hf; rw [hf A (List.mem_of_getElem? h)] at hg; cases hg
theorem all_yes {l : List Arr} (h : ∀ (i : Nat) (A : Arr), l[i]? = some A → goodA A = true) : l.all goodA = true := by
  rw [List.all_eq_true]; intro A hA
  obtain ⟨i, hi⟩ := List.getElem?_of_mem hA
  exact h i A hi

set_option maxHeartbeats 4000000 in
set_option maxRecDepth 10000 in
theorem few25_a (c : Cfg) (hc : CfgT c) : ACalls Try.prog 7 [.agg (cfgV c)] (.lit (.bool (few25 c))) := by
  refine acalls_of code_scrimref25_Few (by simp [fn_scrimref25_Few]) fun C hC => ?_
  refine walk3 ?_
  refine aw_loopB [1] [0] (fun k : Nat => [(3, i64V k)]) (fun k => []) 1
      (fun k => k ≤ 8 ∧ ∀ i, i < k → fewK c i = true) (fun k => 8 - k) 0 ⟨by omega, fun i hi => absurd hi (Nat.not_lt_zero _)⟩ ?_
  rintro k ⟨hk, hI⟩
  dsimp only [List.cons_append, List.nil_append]
  by_cases hlt : k < 8
  · have e1 : (cfgV c)[0 + 8 + ((k : Nat) : Int).toNat * 1]? = some (insV c k) := cfg_in c k hlt
    have e4 : (cfgV c)[0 + 24 + ((k : Nat) : Int).toNat * 1]? = some (drV c k) := cfg_dr c k hlt
    have hL : ((((c.ins k).map arrR).length : Nat) : Int) = ((c.ins k).length : Nat) := by simp
    have hD := intsA_len .i64 (c.dr k)
    by_cases h1 : (c.ins k).length ≤ 20
    · by_cases h2 : (c.dr k).length ≤ 60
      · refine walk3 ?_
        refine aw_loopB [1, 3] [0] (fun j : Nat => [(4, i64V j)]) (fun j => []) 1
          (fun j => j ≤ (c.ins k).length ∧ ∀ i A, i < j → (c.ins k)[i]? = some A → goodA A = true) (fun j => (c.ins k).length - j) 0 ⟨by omega, fun i A hi => absurd hi (Nat.not_lt_zero _)⟩ ?_
        rintro j ⟨hj, hJ⟩
        dsimp only [List.cons_append, List.nil_append]
        by_cases hlj : j < (c.ins k).length
        · obtain ⟨A, hA⟩ : ∃ A, (c.ins k)[j]? = some A := ⟨_, List.getElem?_eq_getElem hlj⟩
          have ha := arr_at hA
          have hok := (hc.ins k).2.2 A (List.mem_of_getElem? hA)
          have cg := good_a A hok
          have hb : ((j : Nat) : Int) < ((((c.ins k).map arrR).length : Nat) : Int) := by rw [hL]; omega
          cases hg : goodA A
          · rw [hg] at cg
            rw [few25_no hlt (by simp [fewK, all_no hA hg])]
            refine walk3 ?_
            exact fin
          · rw [hg] at cg
            refine walk3 ?_
            exact ⟨j + 1, by omega, ⟨by omega, fun i B hi hB => by
              by_cases hij : i = j
              · subst hij; rw [hA] at hB; simp only [Option.some.injEq] at hB; rw [← hB]; exact hg
              · exact hJ i B (by omega) hB⟩, wkR hC.m []⟩
        · have hall : fewK c k = true := by
            simp only [fewK, Bool.and_eq_true, decide_eq_true_eq]
            exact ⟨h1, h2, all_yes fun i A hi => hJ i A (by have := (List.getElem?_eq_some_iff.1 hi).1; omega) hi⟩
          refine walk3 ?_
          exact ⟨k + 1, by omega, ⟨by omega, fun i hi => by
            by_cases hik : i = k
            · subst hik; exact hall
            · exact hI i (by omega)⟩, wkR hC.m []⟩
      · rw [few25_no hlt (by simp [fewK, h2])]
        refine walk3 ?_
        exact fin
    · rw [few25_no hlt (by simp [fewK, h1])]
      refine walk3 ?_
      exact fin
  · rw [few25_yes fun i hi => hI i (by omega)]
    refine walk3 ?_
    exact fin

theorem i64_bounds {z : Int} (h : (Lit.int .i64 z).wf = true) : -9223372036854775808 ≤ z ∧ z ≤ 9223372036854775807 := by
  simp only [Lit.wf, IntKind.min, IntKind.max, IntKind.bits, IntKind.signed] at h
  simp at h
  omega
theorem cfgOK_of {c : Cfg} (hc : CfgT c) (hf : few25 c = true) : CfgOK c := by
  rw [few25, List.all_eq_true] at hf
  refine ⟨hc.cl, hc.lb, hc.au, fun n => ?_, fun n => ?_⟩
  · by_cases hn : n < 8
    · have := hf n (by simpa using hn)
      simp only [fewK, Bool.and_eq_true, decide_eq_true_eq, List.all_eq_true] at this
      exact ⟨by omega, fun A hA => few_ok ((hc.ins n).2.2 A hA) (good_few (this.2.2 A hA))⟩
    · rw [(hc.ins n).1 hn]; exact ⟨by simp, fun A h => by cases h⟩
  · by_cases hn : n < 8
    · have := hf n (by simpa using hn)
      simp only [fewK, Bool.and_eq_true, decide_eq_true_eq] at this
      exact ⟨by omega, fun z hz => i64_bounds ((hc.dr n).2.2 z hz)⟩
    · rw [(hc.dr n).1 hn]; exact ⟨by simp, fun A h => by cases h⟩

set_option maxHeartbeats 4000000 in
set_option maxRecDepth 10000 in
theorem same25_a (A B : Arr) (e f : Int) (hA : arrOK A) (hB : arrOK B) (he : -9223372036854775808 ≤ e ∧ e ≤ 9223372036854775807) : ACalls Try.prog 34 [.agg (arrV A), i64V e, .agg (arrV B), i64V f] (.lit (.bool ((e == f) && sameA A B))) := by
  have c1 := same_a A B hA hB
  refine acalls_of code_scrimlaw25_same (by simp [fn_scrimlaw25_same]) fun C hC => ?_
  by_cases h : e = f
  · rw [h, beq_self_eq_true, Bool.true_and]
    refine walk3 ?_
    exact fin
  · rw [int_beq_ne h, Bool.false_and]
    refine walk3 ?_
    exact fin
end Go.Proofs.Ytfnbhkeilcbmjaa
