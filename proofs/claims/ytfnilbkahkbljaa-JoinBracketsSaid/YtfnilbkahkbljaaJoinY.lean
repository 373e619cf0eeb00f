/- The law JoinCatenates. -/
import Derived.Test.YtfnilbkahkbljaaJoinX
namespace Go.Proofs.Ytfnilbkahkbljaa
set_option linter.unusedVariables false
open Go.RowKit

theorem okJ_of {A : Arr} {d : Nat} (hA : okA A) (r : rightA d A = true) : okJ A := ⟨hA, (right_shape r).1, (right_shape r).2.1⟩
theorem okJ_good {A : Arr} (hA : arrOK A) (h : goodA A = true) : okJ A := okJ_of (few_ok hA (good_few h)) (good_right h)

theorem awake12_a : ACalls Try.prog 24 [] (.lit (.bool true)) := by
  have c1 := r11Vector_a [1, 2] 0 (by simp [maxB]) (by intro z hz; simp at hz; omega)
  have c2 := alone_a 3 0 (by omega) (by omega)
  have k1 : okJ (.mk 0 [2] ([1, 2].map intC)) := ⟨intsJ_ok [1, 2] [2] 0 (by simp) (by simp) (by omega) (by intro z hz; simp at hz; omega), by decide, by rfl⟩
  have k2 : okJ (.mk 0 [] [intC 3]) := ⟨intsJ_ok [3] [] 0 (by simp) (by simp) (by omega) (by intro z hz; simp at hz; omega), by decide, by rfl⟩
  have c3 := cat_a _ _ false k1 k2
  have e : catP (.mk 0 [2] ([1, 2].map intC)) (.mk 0 [] [intC 3]) false = (.mk 0 [3] ([1, 2, 3].map intC), 0) := rfl
  rw [e] at c3
  have e2 : ((([1, 2] : List Int).length : Nat) : Int) = 2 := rfl
  rw [e2] at c1
  simp only at c3
  clear e k1 k2
  generalize hX : List.map intC [1, 2] = X at c1 c3
  generalize hY : List.map intC [1, 2, 3] = Y at c3
  clear hX
  refine acalls_of code_scrimlaw12_awake (by simp [fn_scrimlaw12_awake]) fun C hC => ?_
  refine walk2 ?_
  clear c1 c2 c3
  have c4 := r11Vector_a [1, 2, 3] 0 (by simp [maxB]) (by intro z hz; simp at hz; omega)
  have o3 : arrOK (.mk 0 [3] ([1, 2, 3].map intC)) := by
    refine ⟨by omega, fun z hz => by simp at hz; subst hz; decide, by simp [reachBytes], by simp [reachBytes], cellsOK_mem.2 fun c hc => ?_⟩
    obtain ⟨z, hz, rfl⟩ := List.mem_map.1 hc
    exact intJ_OK z (by simp at hz; omega)
  have c5 := same_a _ _ o3 o3
  rw [sameA_refl] at c5
  have e3 : ((([1, 2, 3] : List Int).length : Nat) : Int) = 3 := rfl
  rw [e3] at c4
  rw [hY] at c4 c5
  clear o3 hY
  refine walk2 ?_
  exact fin

theorem joinCatenates_core (A B : Arr) (first : Bool) (hA : arrOK A) (hB : arrOK B) (gA : goodA A = true) (gB : goodA B = true) (R : Arr) (e : Int) (hR : catP A B first = (R, e)) :
    ACalls Try.prog 4 [.agg (arrV A), .agg (arrV B), .lit (.bool first)] (.lit (.bool true)) := by
  have kA := okJ_good hA gA
  have kB := okJ_good hB gB
  have c0 := awake12_a
  have c1 := good_at A hA gA
  have c2 := good_at B hB gB
  have c3 := cat_a A B first kA kB
  have c4 := refCat_a A B first kA kB
  have oR := arrOK_cat kA kB hA hB first
  have rR := right_cat kA kB (good_right gA) (good_right gB) first
  rw [hR] at c3 c4 oR rR
  simp only at c3 c4 oR rR
  have c5 := same10_a R R e e oR oR
  rw [sameA_refl, decide_eq_true rfl, Bool.true_and] at c5
  by_cases he : e = 0
  · have c6 := right_at 8 R 8 rfl (by omega) oR (rR he)
    subst he
    clear hA hB gA gB kA kB oR rR hR
    refine acalls_of code_scrimlaw12_JoinCatenates (by simp [fn_scrimlaw12_JoinCatenates]) fun C hC => ?_
    refine walk2 ?_
    exact fin
  · clear hA hB gA gB kA kB oR rR hR
    refine acalls_of code_scrimlaw12_JoinCatenates (by simp [fn_scrimlaw12_JoinCatenates]) fun C hC => ?_
    refine walk2 ?_
    exact fin

theorem joinCatenates_a (A B : Arr) (first : Bool) (hA : arrOK A) (hB : arrOK B) :
    ACalls Try.prog 4 [.agg (arrV A), .agg (arrV B), .lit (.bool first)] (.lit (.bool true)) := by
  have c0 := awake12_a
  cases gA : goodA A
  · have c1 := good_at A hA gA
    refine acalls_of code_scrimlaw12_JoinCatenates (by simp [fn_scrimlaw12_JoinCatenates]) fun C hC => ?_
    refine walk2 ?_
    exact fin
  · cases gB : goodA B
    · have c1 := good_at A hA gA
      have c2 := good_at B hB gB
      refine acalls_of code_scrimlaw12_JoinCatenates (by simp [fn_scrimlaw12_JoinCatenates]) fun C hC => ?_
      refine walk2 ?_
      exact fin
    · exact joinCatenates_core A B first hA hB gA gB _ _ rfl
end Go.Proofs.Ytfnilbkahkbljaa
