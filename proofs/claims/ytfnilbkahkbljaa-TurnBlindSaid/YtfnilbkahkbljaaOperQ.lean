/- Lines of arrays, places with an axis more: plain laws; no program in sight. -/
import Derived.Test.YtfnilbkahkbljaaShC
namespace Go.Proofs.Ytfnilbkahkbljaa
set_option linter.unusedVariables false
open Go.RowKit

def cellD : Cell := .mk 0 0 ⟨false, [], []⟩ 0 []
def lineAt (cs : List Cell) (L B q : Nat) : List Cell := (List.range L).map fun n => cs.getD ((q / B * L + n) * B + q % B) cellD
def linesQ (cs : List Cell) (L B M : Nat) : List (List Cell) := (List.range M).map (lineAt cs L B)
def lineV (l : List Cell) : List AV := [.sl 7 (l.map cellR)]

theorem digR_append : ∀ (s t : List Int) (n : Int), digR (s ++ t) n = ((digR s (digR t n).1).1, (digR s (digR t n).1).2 ++ (digR t n).2)
  | [], t, n => by simp [digR]
  | z :: s, t, n => by simp only [List.cons_append, digR, digR_append s t n]

theorem findL_eq (d : List Int) : ∀ (l : List (List Int)) (n k : Nat), l[k]? = some d → (∀ j, j < k → l[j]? ≠ some d) → findL l d n = ((n + k : Nat) : Int)
  | [], n, k, h, _ => by simp at h
  | p :: l, n, 0, h, _ => by
    simp only [List.getElem?_cons_zero, Option.some.injEq] at h
    subst h
    rw [findL, if_pos (by simp [intsP])]; simp
  | p :: l, n, k + 1, h, hn => by
    have h0 := hn 0 (by omega)
    simp only [List.getElem?_cons_zero, ne_eq, Option.some.injEq] at h0
    rw [findL, if_neg (by simpa [intsP] using h0), findL_eq d l (n + 1) k (by simpa using h) (fun j hj => by have := hn (j + 1) (by omega); simpa using this)]
    omega

theorem find_digR {s : List Int} {N : Int} (hp : ∀ z ∈ s, 0 < z) (h0 : 0 ≤ N) (h1 : N < prodL s) : findL (placesL s) (digR s N).2 0 = N := by
  have hN : N.toNat < (prodL s).toNat := by omega
  have e : ((N.toNat : Nat) : Int) = N := by omega
  rw [findL_eq (digR s N).2 (placesL s) 0 N.toNat (by rw [placesL_at s hN, e]) (fun j hj he => by
    rw [placesL_at s (by omega)] at he
    have := digR_inj hp (m := j) (n := N) (by omega) (by omega) h0 h1 (Option.some.inj he)
    omega)]
  omega

/-- a place with one axis more -/
def putP (p : List Int) (x : Nat) (n : Int) : List Int := p.take x ++ n :: p.drop x

theorem prodL_cons (z : Int) (s : List Int) : prodL (z :: s) = z * prodL s := rfl

section
variable {s1 s2 : List Int} {L : Int}

theorem emod_lt' {a b : Int} (hb : 0 < b) : 0 ≤ a % b ∧ a % b < b := ⟨Int.emod_nonneg _ (by omega), Int.emod_lt_of_pos _ hb⟩

/-- the place of a line's cell is that of the array's -/
theorem digR_put (hp : ∀ z ∈ s1 ++ L :: s2, 0 < z) (q k : Int) (hq : 0 ≤ q) (hk0 : 0 ≤ k) (hk : k < L) :
    putP (digR (s1 ++ s2) q).2 s1.length k = (digR (s1 ++ L :: s2) ((q / prodL s2 * L + k) * prodL s2 + q % prodL s2)).2 := by
  have hp2 : ∀ z ∈ s2, 0 < z := fun z hz => hp z (by simp [hz])
  have hL : 0 < L := by omega
  have hB := prodL_pos s2 hp2
  generalize hBe : prodL s2 = B at hB ⊢
  have hm := emod_lt' (a := q) hB
  have hfst : ∀ n, (digR s2 n).1 = n / B := fun n => by rw [← hBe]; exact digR_fst s2 n hp2
  have e1 : ((q / B * L + k) * B + q % B) / B = q / B * L + k := by
    rw [Int.add_comm, Int.add_mul_ediv_right _ _ (by omega), Int.ediv_eq_zero_of_lt hm.1 hm.2, Int.zero_add]
  have e2 : ((q / B * L + k) * B + q % B) % B = q % B := by
    rw [Int.add_comm, Int.add_mul_emod_self_right, Int.emod_emod_of_dvd _ (Int.dvd_refl B)]
  have e3 : (q / B * L + k) / L = q / B := by
    rw [Int.add_comm, Int.add_mul_ediv_right _ _ (by omega), Int.ediv_eq_zero_of_lt hk0 hk, Int.zero_add]
  have e4 : (q / B * L + k) % L = k := by
    rw [Int.add_comm, Int.add_mul_emod_self_right, Int.emod_eq_of_lt hk0 hk]
  have e5 : (digR s2 ((q / B * L + k) * B + q % B)).2 = (digR s2 q).2 := digR_mod s2 _ _ hp2 (by rw [hBe, e2])
  rw [digR_append, digR_append]
  have hl := digR_len s1 (digR s2 q).1
  simp only [putP, digR, hfst, e1, e3, e4, e5] at hl ⊢
  rw [← hl, List.take_left, List.drop_left]

theorem digR_cut (hp : ∀ z ∈ s1 ++ L :: s2, 0 < z) (n : Int) (hn : 0 ≤ n) :
    (digR (s1 ++ L :: s2) n).2.take s1.length ++ (digR (s1 ++ L :: s2) n).2.drop (s1.length + 1) = (digR (s1 ++ s2) (n / prodL s2 / L * prodL s2 + n % prodL s2)).2 ∧
    (digR (s1 ++ L :: s2) n).2[s1.length]? = some (n / prodL s2 % L) := by
  have hp2 : ∀ z ∈ s2, 0 < z := fun z hz => hp z (by simp [hz])
  have hL : 0 < L := hp L (by simp)
  have hB := prodL_pos s2 hp2
  generalize hBe : prodL s2 = B at hB ⊢
  have hm := emod_lt' (a := n) hB
  have hfst : ∀ n, (digR s2 n).1 = n / B := fun n => by rw [← hBe]; exact digR_fst s2 n hp2
  have e1 : (n / B / L * B + n % B) / B = n / B / L := by
    rw [Int.add_comm, Int.add_mul_ediv_right _ _ (by omega), Int.ediv_eq_zero_of_lt hm.1 hm.2, Int.zero_add]
  have e2 : (n / B / L * B + n % B) % B = n % B := by
    rw [Int.add_comm, Int.add_mul_emod_self_right, Int.emod_emod_of_dvd _ (Int.dvd_refl B)]
  have e5 : (digR s2 (n / B / L * B + n % B)).2 = (digR s2 n).2 := digR_mod s2 _ _ hp2 (by rw [hBe, e2])
  rw [digR_append, digR_append]
  simp only [digR, hfst, e1, e5]
  have hl := digR_len s1 (n / B / L)
  constructor
  · have ed : ∀ (X Y : List Int) (k : Int), (X ++ k :: Y).drop (X.length + 1) = Y := fun X Y k => by
      rw [show X ++ k :: Y = (X ++ [k]) ++ Y from by simp, List.drop_left' (by simp)]
    rw [← hl, List.take_left, ed]
  · rw [List.getElem?_append_right (by omega), hl]; simp
end

theorem prodC_zero : ∀ (l : List Int) (o : Int), Small l → (0 : Int) ∈ l → prodC l o = 0
  | [], o, _, h => by simp at h
  | z :: l, o, hs, h => by
    simp only [prodC]
    split
    · rfl
    · rcases List.mem_cons.1 h with h | h
      · subst h
        rw [Int.mul_zero]
        have : ∀ (l : List Int), prodC l 0 = 0 := by
          intro l
          induction l with
          | nil => rfl
          | cons y l ih => simp only [prodC, Int.zero_mul]; simpa using ih
        exact this l
      · exact prodC_zero l _ (fun y hy => hs y (by simp [hy])) h

theorem prodC_cnt {r : List Int} (h : (cnt r).2 = 0) : prodC r 1 = prodL r := by
  have hs := cnt_small h
  by_cases h0 : (0 : Int) ∈ r
  · rw [prodC_zero r 1 hs h0, prodL_zero h0]
  · have hpos : ∀ z ∈ r, 0 < z := fun z hz => by
      have := (hs z hz).1
      rcases Int.lt_or_eq_of_le this with h1 | h1
      · exact h1
      · subst h1; exact absurd hz h0
    have hne : prodC r 1 ≠ 0 := by
      intro e
      have h2 := prodL_pos r hpos
      rw [← cnt_prod h] at h2
      unfold cnt at h h2
      split at h
      · simp at h
      · split at h
        · simp at h
        · split at h
          · simp at h
          · split at h
            · rename_i hz; simp only [List.any_eq_true, beq_iff_eq] at hz; obtain ⟨z, hz, e'⟩ := hz; subst e'; exact h0 hz
            · simp at h
    rw [prodC_eq r 1 (by omega) hpos hne, Int.one_mul]
end Go.Proofs.Ytfnilbkahkbljaa
