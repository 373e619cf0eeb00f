/- Plain: the place of a cell, the next place; no program in sight. -/
import Derived.Test.YtfnilbkahkbljaaShQ2
namespace Go.Proofs.Ytfnilbkahkbljaa
set_option linter.unusedVariables false

/-- the place of a cell, from the last axis on: what is left of the number, and the place -/
def digR : List Int → Int → Int × List Int
  | [], n => (n, [])
  | z :: zs, n => ((digR zs n).1 / z, ((digR zs n).1 % z) :: (digR zs n).2)

theorem digR_len : ∀ (s : List Int) (n : Int), (digR s n).2.length = s.length
  | [], _ => rfl
  | z :: zs, n => by simp [digR, digR_len zs n]

theorem digR_zero : ∀ (s : List Int), (digR s 0).2 = List.replicate s.length 0 ∧ (digR s 0).1 = 0
  | [] => by simp [digR]
  | z :: s => by
    have ih := digR_zero s
    simp [digR, ih, List.replicate_succ]

/-- the next place, from the last axis on: is one carried, and the place -/
def incR : List Int → List Int → Bool × List Int
  | z :: zs, d :: ds => if (incR zs ds).1 then (if d + 1 < z then (false, (d + 1) :: (incR zs ds).2) else (true, 0 :: (incR zs ds).2)) else (false, d :: (incR zs ds).2)
  | _, ds => (true, ds)

theorem rep_set (j : Nat) (ds : List Int) (v : Int) : (List.replicate (j + 1) 0 ++ ds).set j v = List.replicate j 0 ++ v :: ds := by
  rw [List.replicate_succ', List.append_assoc, List.set_append_right _ _ (by simp)]; simp

theorem incR_len : ∀ (s d : List Int), (incR s d).2.length = d.length
  | [], d => by simp [incR]
  | z :: s, [] => by simp [incR]
  | z :: s, d :: ds => by
    simp only [incR]
    have ih := incR_len s ds
    split
    · split <;> simp [ih]
    · simp [ih]

theorem incR_nil (d : List Int) : incR [] d = (true, d) := by simp [incR]

/-- where nothing is carried, the axes ahead stand -/
theorem incR_stop : ∀ (k : Nat) (s d : List Int), s.length = d.length → k ≤ s.length → (incR (s.drop k) (d.drop k)).1 = false → incR s d = (false, d.take k ++ (incR (s.drop k) (d.drop k)).2)
  | 0, s, d, _, _, h => by simp only [List.drop_zero, List.take_zero, List.nil_append] at h ⊢; exact Prod.ext h rfl
  | k + 1, z :: s, x :: d, hl, hk, h => by
    simp only [List.drop_succ_cons] at h ⊢
    have ih := incR_stop k s d (by simpa using hl) (by simpa using hk) h
    simp only [incR]
    rw [ih]
    simp
  | k + 1, [], [], _, hk, _ => by simp at hk
  | k + 1, z :: s, [], hl, _, _ => by simp at hl
  | k + 1, [], x :: d, hl, _, _ => by simp at hl

end Go.Proofs.Ytfnilbkahkbljaa
