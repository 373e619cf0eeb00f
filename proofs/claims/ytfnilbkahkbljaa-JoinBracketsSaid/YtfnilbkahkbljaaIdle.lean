/- The deferred closures that recover: where nobody panics they do nothing. -/
import Derived.Test.YtfnilbkahkbljaaAbsD
import Derived.KernelRfl
import Derived.Test.YtfnilbkahkbljaaProg
namespace Go.Proofs.Ytfnilbkahkbljaa
set_option linter.unusedVariables false
open Go.RowKit

theorem idle_join_Catenate : Idle Try.prog 66 := by
  refine ⟨⟨_, Try.func66, by rfl, by rfl⟩, fun args w => ?_⟩
  refine callsD_of_wpS Try.func66 rfl fun c₀ cs hu => ?_
  rw [Try.ntmps66]
  have hsz : 5 ≤ (args ++ Array.replicate (5 - args.size) undef).size := by simp; omega
  generalize (args ++ Array.replicate (5 - args.size) undef) = T at hsz ⊢
  have h2 : 2 < T.size := by omega
  have h3 : 3 < T.size := by omega
  apply wpS_seq
  apply wpS_region
  simp [wpOpsS, go_sem, recoverD, hu, Exit.thenS, h2]
  refine wpS_cond (t := false) (by simp [Act.eval, h3]) ?_
  simp only [Bool.false_eq_true, if_false]
  refine wpS_of_wp (wp_skip ?_)
  cases c₀
  simp_all [bodyPostS, results, Try.results66]

theorem idle_join_Strand : Idle Try.prog 85 := by
  refine ⟨⟨_, Try.func85, by rfl, by rfl⟩, fun args w => ?_⟩
  refine callsD_of_wpS Try.func85 rfl fun c₀ cs hu => ?_
  rw [Try.ntmps85]
  have hsz : 5 ≤ (args ++ Array.replicate (5 - args.size) undef).size := by simp; omega
  generalize (args ++ Array.replicate (5 - args.size) undef) = T at hsz ⊢
  have h2 : 2 < T.size := by omega
  have h3 : 3 < T.size := by omega
  apply wpS_seq
  apply wpS_region
  simp [wpOpsS, go_sem, recoverD, hu, Exit.thenS, h2]
  refine wpS_cond (t := false) (by simp [Act.eval, h3]) ?_
  simp only [Bool.false_eq_true, if_false]
  refine wpS_of_wp (wp_skip ?_)
  cases c₀
  simp_all [bodyPostS, results, Try.results85]

theorem idle_turn_Rotate : Idle Try.prog 89 := by
  refine ⟨⟨_, Try.func89, by rfl, by rfl⟩, fun args w => ?_⟩
  refine callsD_of_wpS Try.func89 rfl fun c₀ cs hu => ?_
  rw [Try.ntmps89]
  have hsz : 5 ≤ (args ++ Array.replicate (5 - args.size) undef).size := by simp; omega
  generalize (args ++ Array.replicate (5 - args.size) undef) = T at hsz ⊢
  have h2 : 2 < T.size := by omega
  have h3 : 3 < T.size := by omega
  apply wpS_seq
  apply wpS_region
  simp [wpOpsS, go_sem, recoverD, hu, Exit.thenS, h2]
  refine wpS_cond (t := false) (by simp [Act.eval, h3]) ?_
  simp only [Bool.false_eq_true, if_false]
  refine wpS_of_wp (wp_skip ?_)
  cases c₀
  simp_all [bodyPostS, results, Try.results89]

theorem idle_turn_Reverse : Idle Try.prog 97 := by
  refine ⟨⟨_, Try.func97, by rfl, by rfl⟩, fun args w => ?_⟩
  refine callsD_of_wpS Try.func97 rfl fun c₀ cs hu => ?_
  rw [Try.ntmps97]
  have hsz : 4 ≤ (args ++ Array.replicate (4 - args.size) undef).size := by simp; omega
  generalize (args ++ Array.replicate (4 - args.size) undef) = T at hsz ⊢
  have h2 : 1 < T.size := by omega
  have h3 : 2 < T.size := by omega
  apply wpS_seq
  apply wpS_region
  simp [wpOpsS, go_sem, recoverD, hu, Exit.thenS, h2]
  refine wpS_cond (t := false) (by simp [Act.eval, h3]) ?_
  simp only [Bool.false_eq_true, if_false]
  refine wpS_of_wp (wp_skip ?_)
  cases c₀
  simp_all [bodyPostS, results, Try.results97]

theorem idle_turn_Transpose : Idle Try.prog 99 := by
  refine ⟨⟨_, Try.func99, by rfl, by rfl⟩, fun args w => ?_⟩
  refine callsD_of_wpS Try.func99 rfl fun c₀ cs hu => ?_
  rw [Try.ntmps99]
  have hsz : 4 ≤ (args ++ Array.replicate (4 - args.size) undef).size := by simp; omega
  generalize (args ++ Array.replicate (4 - args.size) undef) = T at hsz ⊢
  have h2 : 1 < T.size := by omega
  have h3 : 2 < T.size := by omega
  apply wpS_seq
  apply wpS_region
  simp [wpOpsS, go_sem, recoverD, hu, Exit.thenS, h2]
  refine wpS_cond (t := false) (by simp [Act.eval, h3]) ?_
  simp only [Bool.false_eq_true, if_false]
  refine wpS_of_wp (wp_skip ?_)
  cases c₀
  simp_all [bodyPostS, results, Try.results99]

theorem idle_turn_Permute : Idle Try.prog 103 := by
  refine ⟨⟨_, Try.func103, by rfl, by rfl⟩, fun args w => ?_⟩
  refine callsD_of_wpS Try.func103 rfl fun c₀ cs hu => ?_
  rw [Try.ntmps103]
  have hsz : 5 ≤ (args ++ Array.replicate (5 - args.size) undef).size := by simp; omega
  generalize (args ++ Array.replicate (5 - args.size) undef) = T at hsz ⊢
  have h2 : 2 < T.size := by omega
  have h3 : 3 < T.size := by omega
  apply wpS_seq
  apply wpS_region
  simp [wpOpsS, go_sem, recoverD, hu, Exit.thenS, h2]
  refine wpS_cond (t := false) (by simp [Act.eval, h3]) ?_
  simp only [Bool.false_eq_true, if_false]
  refine wpS_of_wp (wp_skip ?_)
  cases c₀
  simp_all [bodyPostS, results, Try.results103]

end Go.Proofs.Ytfnilbkahkbljaa
