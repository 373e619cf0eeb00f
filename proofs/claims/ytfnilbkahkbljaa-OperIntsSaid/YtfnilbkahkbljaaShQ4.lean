/- Plain: places and cells stand for one another; no program in sight. -/
import Derived.Test.YtfnilbkahkbljaaShQ3
namespace Go.Proofs.Ytfnilbkahkbljaa
set_option linter.unusedVariables false

theorem emod_mul_split (n z p : Int) (hz : 0 < z) (hp : 0 < p) : n % (z * p) = ((n / p) % z) * p + n % p := by
  have h1 := Int.mul_ediv_add_emod n p
  have h2 := Int.mul_ediv_add_emod (n / p) z
  have a1 := Int.emod_nonneg n (Int.ne_of_gt hp)
  have a2 := Int.emod_lt_of_pos n hp
  have b1 := Int.emod_nonneg (n / p) (Int.ne_of_gt hz)
  have b2 := Int.emod_lt_of_pos (n / p) hz
  generalize n % p = r at *
  generalize n / p = q at *
  generalize q % z = d at *
  generalize q / z = t at *
  have e : n = (d * p + r) + (z * p) * t := by rw [← h1, ← h2]; simp only [Int.mul_add]; ac_rfl
  have c1 : 0 ≤ d * p + r := by have := Int.mul_nonneg b1 (Int.le_of_lt hp); omega
  have c2 : d * p + r < z * p := by
    have : (d + 1) * p ≤ z * p := Int.mul_le_mul_of_nonneg_right (by omega) (by omega)
    rw [Int.add_mul, Int.one_mul] at this
    omega
  rw [e, Int.add_mul_emod_self_left]
  exact Int.emod_eq_of_lt c1 c2

theorem digR_fst : ∀ (s : List Int) (n : Int), (∀ z ∈ s, 0 < z) → (digR s n).1 = n / prodL s
  | [], n, _ => by simp [digR, prodL]
  | z :: s, n, h => by
    have ih := digR_fst s n (fun y hy => h y (by simp [hy]))
    have hp := prodL_pos s (fun y hy => h y (by simp [hy]))
    simp only [digR, ih, prodL]
    rw [Int.ediv_ediv_of_nonneg (Int.le_of_lt hp), Int.mul_comm]

/-- the cell of a cell's place is the cell -/
theorem idxC_digR : ∀ (s : List Int) (n o : Int), (∀ z ∈ s, 0 < z) → idxC s (digR s n).2 o = some (o * prodL s + n % prodL s)
  | [], n, o, _ => by simp [idxC, prodL, Int.emod_one]
  | z :: s, n, o, h => by
    have hs : ∀ y ∈ s, 0 < y := fun y hy => h y (by simp [hy])
    have hp := prodL_pos s hs
    have hz := h z (by simp)
    have h0 := Int.emod_nonneg (n / prodL s) (Int.ne_of_gt hz)
    have h1 := Int.emod_lt_of_pos (n / prodL s) hz
    simp only [digR, idxC, digR_fst s n hs, prodL]
    rw [if_neg (by omega), idxC_digR s n _ hs, emod_mul_split n z _ hz hp]
    congr 1
    simp only [Int.add_mul, Int.mul_assoc, Int.add_assoc]

/-- the place hangs on the number's rest alone -/
theorem digR_mod : ∀ (s : List Int) (m n : Int), (∀ z ∈ s, 0 < z) → m % prodL s = n % prodL s → (digR s m).2 = (digR s n).2
  | [], _, _, _, _ => rfl
  | z :: s, m, n, h, e => by
    have hs : ∀ y ∈ s, 0 < y := fun y hy => h y (by simp [hy])
    have hp := prodL_pos s hs
    have hz := h z (by simp)
    simp only [prodL] at e
    rw [emod_mul_split m z _ hz hp, emod_mul_split n z _ hz hp] at e
    have m1 := Int.emod_nonneg m (Int.ne_of_gt hp)
    have m2 := Int.emod_lt_of_pos m hp
    have n1 := Int.emod_nonneg n (Int.ne_of_gt hp)
    have n2 := Int.emod_lt_of_pos n hp
    have er : m % prodL s = n % prodL s := by
      have := congrArg (· % prodL s) e
      simp only [Int.add_comm _ (m % prodL s), Int.add_comm _ (n % prodL s), Int.add_mul_emod_self_right] at this
      rwa [Int.emod_eq_of_lt m1 m2, Int.emod_eq_of_lt n1 n2] at this
    have eq' : (m / prodL s) % z = (n / prodL s) % z := by
      rw [er] at e
      exact Int.eq_of_mul_eq_mul_right (Int.ne_of_gt hp) (by omega)
    simp only [digR, digR_fst s _ hs, eq', digR_mod s m n hs er]

/-- and the place of a place's cell is the place -/
theorem idxC_some : ∀ (s d : List Int) (o k : Int), d.length = s.length → idxC s d o = some k → ∃ j, 0 ≤ j ∧ j < prodL s ∧ k = o * prodL s + j ∧ d = (digR s j).2 ∧ ∀ z ∈ s, 0 < z
  | [], d, o, k, hl, h => by
    have : d = [] := List.eq_nil_of_length_eq_zero hl
    subst this
    simp [idxC] at h
    exact ⟨0, by omega, by simp [prodL], by simp [prodL, h], rfl, by simp⟩
  | z :: s, [], o, k, hl, h => by simp at hl
  | z :: s, y :: d, o, k, hl, h => by
    simp only [idxC] at h
    split at h
    · cases h
    · rename_i hy
      obtain ⟨j, j0, j1, jk, jd, js⟩ := idxC_some s d (o * z + y) k (by simpa using hl) h
      have hz : 0 < z := by omega
      have hp := prodL_pos s js
      have hy0 : 0 ≤ y := by omega
      have hy1 : y < z := by omega
      have c1 := Int.mul_nonneg hy0 (Int.le_of_lt hp)
      have c2 : y * prodL s + prodL s ≤ z * prodL s := by
        have : (y + 1) * prodL s ≤ z * prodL s := Int.mul_le_mul_of_nonneg_right (by omega) (by omega)
        rw [Int.add_mul, Int.one_mul] at this; exact this
      have e1 : (y * prodL s + j) / prodL s = y := by
        rw [Int.add_comm, Int.add_mul_ediv_right _ _ (by omega), Int.ediv_eq_zero_of_lt j0 j1]; omega
      have e2 : (y * prodL s + j) % prodL s = j := by
        rw [Int.add_comm, Int.add_mul_emod_self_right, Int.emod_eq_of_lt j0 j1]
      refine ⟨y * prodL s + j, by omega, by simp only [prodL]; omega, ?_, ?_, ?_⟩
      · rw [jk, prodL]; simp only [Int.add_mul, Int.mul_assoc, Int.add_assoc]
      · have hd : (digR s (y * prodL s + j)).2 = (digR s j).2 := by
          have a := idxC_digR s (y * prodL s + j) 0 js
          have b := idxC_digR s j 0 js
          exact digR_mod s _ _ js (by rw [e2, Int.emod_eq_of_lt j0 j1])
        simp only [digR, digR_fst s _ js, e1, hd, ← jd]
        rw [Int.emod_eq_of_lt hy0 hy1]
      · intro x hx
        rcases List.mem_cons.1 hx with rfl | hx
        · exact hz
        · exact js x hx

theorem digR_inj {s : List Int} {m n : Int} (h : ∀ z ∈ s, 0 < z) (hm0 : 0 ≤ m) (hm : m < prodL s) (hn0 : 0 ≤ n) (hn : n < prodL s) (e : (digR s m).2 = (digR s n).2) : m = n := by
  have a := idxC_digR s m 0 h
  have b := idxC_digR s n 0 h
  rw [e, b] at a
  simp only [Int.zero_mul, Int.zero_add, Option.some.injEq] at a
  rw [Int.emod_eq_of_lt hm0 hm, Int.emod_eq_of_lt hn0 hn] at a
  exact a.symm

/-- the next place is the next cell's -/
theorem incR_digR : ∀ (s : List Int) (n : Int), (∀ z ∈ s, 0 < z) → incR s (digR s n).2 = ((n + 1) % prodL s == 0, (digR s (n + 1)).2)
  | [], n, _ => by simp [incR, digR, prodL, Int.emod_one]
  | z :: s, n, h => by
    have hs : ∀ y ∈ s, 0 < y := fun y hy => h y (by simp [hy])
    have hp := prodL_pos s hs
    have hz := h z (by simp)
    have ih := incR_digR s n hs
    have h1 := Int.mul_ediv_add_emod n (prodL s)
    have a1 := Int.emod_nonneg n (Int.ne_of_gt hp)
    have a2 := Int.emod_lt_of_pos n hp
    have b1 := Int.emod_nonneg (n / prodL s) (Int.ne_of_gt hz)
    have b2 := Int.emod_lt_of_pos (n / prodL s) hz
    have h2 := Int.mul_ediv_add_emod (n / prodL s) z
    simp only [digR, incR, digR_fst s _ hs, prodL]
    rw [ih, emod_mul_split (n + 1) z _ hz hp]
    by_cases hc : n % prodL s + 1 = prodL s
    · have e0 : n + 1 = (n / prodL s + 1) * prodL s := by rw [Int.add_mul, Int.one_mul, Int.mul_comm]; omega
      have e1 : (n + 1) % prodL s = 0 := by rw [e0]; exact Int.mul_emod_left _ _
      have e2 : (n + 1) / prodL s = n / prodL s + 1 := by rw [e0]; exact Int.mul_ediv_cancel _ (Int.ne_of_gt hp)
      rw [e1, e2]
      by_cases hq : (n / prodL s) % z + 1 < z
      · have e3 : (n / prodL s + 1) % z = (n / prodL s) % z + 1 := by
          have : n / prodL s + 1 = ((n / prodL s) % z + 1) + z * (n / prodL s / z) := by omega
          rw [this, Int.add_mul_emod_self_left, Int.emod_eq_of_lt (by omega) hq]
        have hne : ¬ ((n / prodL s + 1) % z * prodL s + 0 = 0) := by
          rw [e3]
          have := Int.mul_pos (show 0 < (n / prodL s) % z + 1 by omega) hp
          omega
        simp [hq, e3]
        have := Int.mul_pos (show 0 < (n / prodL s) % z + 1 by omega) hp
        omega
      · have e3 : (n / prodL s + 1) % z = 0 := by
          have : n / prodL s + 1 = z * (n / prodL s / z + 1) := by rw [Int.mul_add, Int.mul_one]; omega
          rw [this]; exact Int.mul_emod_right _ _
        simp [hq, e3]
    · have e0 : n + 1 = (n % prodL s + 1) + prodL s * (n / prodL s) := by omega
      have e1 : (n + 1) % prodL s = n % prodL s + 1 := by
        rw [e0, Int.add_mul_emod_self_left]
        exact Int.emod_eq_of_lt (by omega) (by omega)
      have e2 : (n + 1) / prodL s = n / prodL s := by
        rw [e0, Int.add_mul_ediv_left _ _ (Int.ne_of_gt hp), Int.ediv_eq_zero_of_lt (by omega) (by omega)]; omega
      have hne : ¬ (n % prodL s + 1 = 0) := by omega
      rw [e1, e2]
      have c := Int.mul_nonneg b1 (Int.le_of_lt hp)
      simp [hne]
      omega

end Go.Proofs.Ytfnilbkahkbljaa
