/- Plain laws on shapes and places; no program in sight. -/
import Derived.Test.YtfnilbkahkbljaaShQ
namespace Go.Proofs.Ytfnilbkahkbljaa
set_option linter.unusedVariables false

theorem dropA_cons {α : Type} {zs : List α} {k : Nat} {z : α} (h : zs[k]? = some z) : zs.drop k = z :: zs.drop (k + 1) := by
  obtain ⟨hk, rfl⟩ := List.getElem?_eq_some_iff.1 h
  rw [List.drop_eq_getElem_cons hk]

theorem takeA_snoc {α : Type} {zs : List α} {k : Nat} {z : α} (h : zs[k]? = some z) : zs.take (k + 1) = zs.take k ++ [z] := by
  obtain ⟨hk, rfl⟩ := List.getElem?_eq_some_iff.1 h
  rw [List.take_succ_eq_append_getElem hk]

theorem cnt_len {s : List Int} (h : (cnt s).2 = 0) : s.length ≤ 6 := by
  unfold cnt at h
  split at h
  · simp at h
  · omega

theorem cnt_small {s : List Int} (h : (cnt s).2 = 0) : Small s := by
  unfold cnt at h
  split at h
  · simp at h
  · split at h
    · simp at h
    · split at h
      · simp at h
      · exact small_of (by simpa using ‹¬ (s.any fun x => decide (x < 0)) = true›) (by simpa using ‹¬ (s.any fun x => decide (x > 2048)) = true›)

theorem prodC_range : ∀ (l : List Int) (o : Int), 0 ≤ o → o ≤ 2048 → Small l → 0 ≤ prodC l o ∧ prodC l o ≤ 2048
  | [], o, h0, h1, _ => ⟨h0, h1⟩
  | z :: l, o, h0, h1, hs => by
    simp only [prodC]
    have hz := hs z (by simp)
    have := Int.mul_nonneg h0 hz.1
    split
    · omega
    · exact prodC_range l _ this (by omega) (fun y hy => hs y (by simp [hy]))

theorem cnt_le (s : List Int) : 0 ≤ (cnt s).1 ∧ (cnt s).1 ≤ 2048 := by
  unfold cnt
  split
  · simp
  · split
    · simp
    · split
      · simp
      · split
        · simp
        · split
          · simp
          · exact prodC_range s 1 (by omega) (by omega) (small_of (by simpa using ‹¬ (s.any fun x => decide (x < 0)) = true›) (by simpa using ‹¬ (s.any fun x => decide (x > 2048)) = true›))

def prodL : List Int → Int
  | [] => 1
  | z :: zs => z * prodL zs

theorem prodL_append (a b : List Int) : prodL (a ++ b) = prodL a * prodL b := by
  induction a with
  | nil => simp [prodL]
  | cons z a ih => simp only [List.cons_append, prodL, ih, Int.mul_assoc]

theorem prodL_pos : ∀ (l : List Int), (∀ z ∈ l, 0 < z) → 0 < prodL l
  | [], _ => by simp [prodL]
  | z :: l, h => by simp only [prodL]; exact Int.mul_pos (h z (by simp)) (prodL_pos l (fun y hy => h y (by simp [hy])))

theorem prodL_nonneg : ∀ (l : List Int), (∀ z ∈ l, 0 ≤ z) → 0 ≤ prodL l
  | [], _ => by simp [prodL]
  | z :: l, h => by simp only [prodL]; exact Int.mul_nonneg (h z (by simp)) (prodL_nonneg l (fun y hy => h y (by simp [hy])))

/-- where the product doesn't pass the bound it is the product -/
theorem prodC_eq : ∀ (l : List Int) (o : Int), 0 < o → (∀ z ∈ l, 0 < z) → prodC l o ≠ 0 → prodC l o = o * prodL l
  | [], o, _, _, _ => by simp [prodC, prodL]
  | z :: l, o, ho, hp, h => by
    simp only [prodC] at h ⊢
    split at h
    · exact absurd rfl h
    · rename_i hb
      rw [if_neg hb, prodC_eq l (o * z) (Int.mul_pos ho (hp z (by simp))) (fun y hy => hp y (by simp [hy])) h, prodL, Int.mul_assoc]

theorem prodL_zero {l : List Int} (h : (0 : Int) ∈ l) : prodL l = 0 := by
  induction l with
  | nil => simp at h
  | cons z l ih =>
    simp only [prodL]
    rcases List.mem_cons.1 h with h | h
    · rw [← h, Int.zero_mul]
    · rw [ih h, Int.mul_zero]

/-- how many cells: the product -/
theorem cnt_prod {s : List Int} (h : (cnt s).2 = 0) : (cnt s).1 = prodL s := by
  have hs := cnt_small h
  unfold cnt at h ⊢
  split at h
  · simp at h
  · rw [if_neg ‹_›]
    split at h
    · simp at h
    · rw [if_neg ‹_›]
      split at h
      · simp at h
      · rw [if_neg ‹_›]
        by_cases h0 : s.any (fun z => (0 : Int) == z) = true
        · rw [if_pos h0]
          obtain ⟨z, hz, e⟩ := List.any_eq_true.1 h0
          have : (0 : Int) = z := by simpa using e
          subst this
          exact (prodL_zero hz).symm
        · rw [if_neg h0] at h ⊢
          by_cases hp : prodC s 1 = 0
          · rw [if_pos hp] at h; simp at h
          · rw [if_neg hp]
            show prodC s 1 = prodL s
            rw [prodC_eq s 1 (by omega) (fun z hz => by
              have a := hs z hz
              have : z ≠ 0 := fun e => h0 (List.any_eq_true.2 ⟨z, hz, by simp [e]⟩)
              omega) hp, Int.one_mul]

/-- a power of 2048 bounds it -/
theorem prodL_pow : ∀ (l : List Int), Small l → prodL l ≤ 2048 ^ l.length
  | [], _ => by simp [prodL]
  | z :: l, h => by
    have hz := h z (by simp)
    have ih := prodL_pow l (fun y hy => h y (by simp [hy]))
    have h0 := prodL_nonneg l (fun y hy => (h y (by simp [hy])).1)
    simp only [prodL, List.length_cons, Int.pow_succ]
    calc z * prodL l ≤ 2048 * prodL l := Int.mul_le_mul_of_nonneg_right hz.2 h0
      _ ≤ 2048 * 2048 ^ l.length := Int.mul_le_mul_of_nonneg_left ih (by omega)
      _ = _ := Int.mul_comm _ _

theorem pow_le5 : ∀ n : Nat, n ≤ 5 → (2048 : Int) ^ n ≤ 36028797018963968
  | 0, _ => by decide
  | 1, _ => by decide
  | 2, _ => by decide
  | 3, _ => by decide
  | 4, _ => by decide
  | 5, _ => by decide
  | n + 6, h => by omega

/-- of the first axes of a shape that may be, none of them 0, the product is no more than 2 to the 55th -/
theorem prodL_take {s : List Int} (h : (cnt s).2 = 0) (k : Nat) : prodL (s.take k) ≤ 36028797018963968 := by
  have hl := cnt_len h
  have hs := cnt_small h
  by_cases hk : k < 6
  · have h1 := prodL_pow (s.take k) (fun z hz => hs z (List.mem_of_mem_take hz))
    have h2 : (s.take k).length ≤ 5 := by simp; omega
    have h3 := pow_le5 _ h2
    omega
  · rw [List.take_of_length_le (by omega)]
    have := cnt_prod h
    have := cnt_le s
    omega

/-- a step of Index -/
theorem idx_step {s : List Int} {k : Nat} {z p y : Int} (hc : (cnt s).2 = 0) (hz : s[k]? = some z) (hp0 : 0 ≤ p) (hp : p < prodL (s.take k)) (hy : 0 ≤ y) (hyz : y < z) :
    p * z + y < prodL (s.take (k + 1)) ∧ 0 ≤ p * z ∧ p * z ≤ 36028797018963968 ∧ p * z + y ≤ 36028797018963968 := by
  have hz0 : 0 < z := by omega
  have e : prodL (s.take (k + 1)) = prodL (s.take k) * z := by rw [takeA_snoc hz, prodL_append]; simp [prodL]
  have hb := prodL_take hc (k + 1)
  have h1 : p * z + z ≤ prodL (s.take k) * z := by
    have : (p + 1) * z ≤ prodL (s.take k) * z := Int.mul_le_mul_of_nonneg_right (by omega) (by omega)
    rw [Int.add_mul, Int.one_mul] at this; exact this
  have h2 := Int.mul_nonneg hp0 (Int.le_of_lt hz0)
  omega

theorem idxC_nil (ys : List Int) (o : Int) : idxC [] ys o = some o := by simp [idxC]

def idxF : Option Int → Int × Bool
  | none => (0, false)
  | some k => (k, true)

/-- which cell stands at a place -/
def idx (s at' : List Int) : Int × Bool :=
  if (cnt s).2 ≠ 0 ∨ at'.length ≠ s.length then (0, false) else idxF (idxC s at' 0)

end Go.Proofs.Ytfnilbkahkbljaa
