/- Plain functions on shapes: what the functions of layer 7 compute; no program in sight. -/
import Derived.Test.YtmbigpjokpdnkaaAbs9
namespace Go.Proofs.Ytmbigpjokpdnkaa
set_option linter.unusedVariables false

def idxFrom (p : Int → Bool) : List Int → Nat → Int
  | [], _ => -1
  | z :: zs, i => if p z then i else idxFrom p zs (i + 1)

theorem idxFrom_ge (p : Int → Bool) : ∀ (zs : List Int) (i : Nat), decide (idxFrom p zs i ≥ 0) = zs.any p
  | [], _ => rfl
  | z :: zs, i => by
    simp only [idxFrom, List.any_cons]
    by_cases h : p z = true
    · simp [h]
    · have := idxFrom_ge p zs (i + 1)
      simp only [Bool.not_eq_true] at h
      simp [h]
      simpa using this

/-- the product of lengths; 0: above 2048 -/
def prodC : List Int → Int → Int
  | [], o => o
  | z :: zs, o => if o * z > 2048 then 0 else prodC zs (o * z)

/-- how many cells, and the error -/
def cnt (s : List Int) : Int × Int :=
  if s.length > 6 then (0, 7) else if s.any (· < 0) then (0, 3) else if s.any (· > 2048) then (0, 7) else if s.any (fun z => (0 : Int) == z) then (0, 0)
  else if prodC s 1 = 0 then (0, 7) else (prodC s 1, 0)

/-- the reference's first loop: is a number below 0 (none), is one above 2048, is one 0 -/
def chk : List Int → Bool → Bool → Option (Bool × Bool)
  | [], b, n => some (b, n)
  | z :: zs, b, n => if z < 0 then none else chk zs (b || decide (2048 < z)) (n || z == 0)

/-- its second loop -/
def mulC : List Int → Int → Option Int
  | [], o => some o
  | z :: zs, o => if o * z > 2048 then none else mulC zs (o * z)

def rfin2 : Option Int → Int × Int
  | none => (0, 7)
  | some o => (o, 0)
def rfin : Option (Bool × Bool) → Option Int → Int × Int
  | none, _ => (0, 3)
  | some (true, _), _ => (0, 7)
  | some (false, true), _ => (0, 0)
  | some (false, false), m => rfin2 m
def rcnt (s : List Int) : Int × Int :=
  if s.length > 6 then (0, 7) else rfin (chk s false false) (mulC s 1)

theorem chk_eq : ∀ (s : List Int) (b n : Bool), chk s b n = if s.any (· < 0) then none else some (b || s.any (· > 2048), n || s.any (fun z => (0 : Int) == z))
  | [], b, n => by simp [chk]
  | z :: s, b, n => by
    simp only [chk, List.any_cons]
    by_cases h : z < 0
    · simp [h]
    · have e : ((0 : Int) == z) = (z == 0) := by rw [Bool.eq_iff_iff]; simp; omega
      rw [if_neg h, chk_eq s, e]; simp [h, Bool.or_assoc]

theorem mulC_eq : ∀ (s : List Int) (o : Int), 0 < o → (∀ z ∈ s, 0 < z) → mulC s o = if prodC s o = 0 then none else some (prodC s o)
  | [], o, h, _ => by
    have e : prodC [] o ≠ 0 := by show o ≠ 0; omega
    rw [if_neg e]; rfl
  | z :: s, o, h, hz => by
    simp only [mulC, prodC]
    split
    · simp
    · exact mulC_eq s (o * z) (Int.mul_pos h (hz z (by simp))) (fun y hy => hz y (by simp [hy]))

theorem rcnt_eq (s : List Int) : rcnt s = cnt s := by
  unfold rcnt cnt
  split
  · rfl
  · rw [chk_eq]
    by_cases h1 : s.any (· < 0) = true
    · simp [h1, rfin]
    · simp only [h1, Bool.false_eq_true, if_false, Bool.false_or]
      by_cases h2 : s.any (· > 2048) = true
      · simp [h2, rfin]
      · simp only [h2, Bool.false_eq_true, if_false]
        by_cases h3 : s.any (fun z => (0 : Int) == z) = true
        · simp [h3, rfin]
        · simp only [h3, Bool.false_eq_true, if_false]
          rw [mulC_eq s 1 (by omega) (fun z hz => by
            simp only [List.any_eq_true, not_exists, not_and] at h1 h3
            have a := h1 z hz; have b := h3 z hz; simp at a b; omega)]
          by_cases h4 : prodC s 1 = 0 <;> simp [h4, rfin, rfin2]

/-- the cell of a place, step by step -/
def idxC : List Int → List Int → Int → Option Int
  | n :: s, i :: at', o => if i < 0 ∨ n ≤ i then none else idxC s at' (o * n + i)
  | _, _, o => some o

/-- in range: what the product is asked of -/
def Small (s : List Int) : Prop := ∀ z ∈ s, 0 ≤ z ∧ z ≤ 2048

theorem small_of {s : List Int} (h1 : s.any (· < 0) = false) (h2 : s.any (· > 2048) = false) : Small s := fun z hz => by
  simp only [List.any_eq_false] at h1 h2
  have a := h1 z hz; have b := h2 z hz; simp at a b; omega

theorem small_of_chk {s : List Int} {N : Bool} (h : chk s false false = some (false, N)) : Small s := by
  rw [chk_eq] at h
  split at h
  · cases h
  · rename_i h1
    simp only [Bool.false_or, Option.some.injEq, Prod.mk.injEq] at h
    exact small_of (by simpa using h1) h.1

end Go.Proofs.Ytmbigpjokpdnkaa
namespace Go.Proofs.Ytmbigpjokpdnkaa
set_option linter.unusedVariables false

theorem dropA_cons {α : Type} {zs : List α} {k : Nat} {z : α} (h : zs[k]? = some z) : zs.drop k = z :: zs.drop (k + 1) := by
  obtain ⟨hk, rfl⟩ := List.getElem?_eq_some_iff.1 h
  rw [List.drop_eq_getElem_cons hk]

theorem takeA_snoc {α : Type} {zs : List α} {k : Nat} {z : α} (h : zs[k]? = some z) : zs.take (k + 1) = zs.take k ++ [z] := by
  obtain ⟨hk, rfl⟩ := List.getElem?_eq_some_iff.1 h
  rw [List.take_succ_eq_append_getElem hk]

theorem cnt_len {s : List Int} (h : (cnt s).2 = 0) : s.length ≤ 6 := by
  unfold cnt at h
  split at h
  · simp at h
  · omega

theorem cnt_small {s : List Int} (h : (cnt s).2 = 0) : Small s := by
  unfold cnt at h
  split at h
  · simp at h
  · split at h
    · simp at h
    · split at h
      · simp at h
      · exact small_of (by simpa using ‹¬ (s.any fun x => decide (x < 0)) = true›) (by simpa using ‹¬ (s.any fun x => decide (x > 2048)) = true›)

theorem prodC_range : ∀ (l : List Int) (o : Int), 0 ≤ o → o ≤ 2048 → Small l → 0 ≤ prodC l o ∧ prodC l o ≤ 2048
  | [], o, h0, h1, _ => ⟨h0, h1⟩
  | z :: l, o, h0, h1, hs => by
    simp only [prodC]
    have hz := hs z (by simp)
    have := Int.mul_nonneg h0 hz.1
    split
    · omega
    · exact prodC_range l _ this (by omega) (fun y hy => hs y (by simp [hy]))

theorem cnt_le (s : List Int) : 0 ≤ (cnt s).1 ∧ (cnt s).1 ≤ 2048 := by
  unfold cnt
  split
  · simp
  · split
    · simp
    · split
      · simp
      · split
        · simp
        · split
          · simp
          · exact prodC_range s 1 (by omega) (by omega) (small_of (by simpa using ‹¬ (s.any fun x => decide (x < 0)) = true›) (by simpa using ‹¬ (s.any fun x => decide (x > 2048)) = true›))

def prodL : List Int → Int
  | [] => 1
  | z :: zs => z * prodL zs

theorem prodL_append (a b : List Int) : prodL (a ++ b) = prodL a * prodL b := by
  induction a with
  | nil => simp [prodL]
  | cons z a ih => simp only [List.cons_append, prodL, ih, Int.mul_assoc]

theorem prodL_pos : ∀ (l : List Int), (∀ z ∈ l, 0 < z) → 0 < prodL l
  | [], _ => by simp [prodL]
  | z :: l, h => by simp only [prodL]; exact Int.mul_pos (h z (by simp)) (prodL_pos l (fun y hy => h y (by simp [hy])))

theorem prodL_nonneg : ∀ (l : List Int), (∀ z ∈ l, 0 ≤ z) → 0 ≤ prodL l
  | [], _ => by simp [prodL]
  | z :: l, h => by simp only [prodL]; exact Int.mul_nonneg (h z (by simp)) (prodL_nonneg l (fun y hy => h y (by simp [hy])))

/-- where the product doesn't pass the bound it is the product -/
theorem prodC_eq : ∀ (l : List Int) (o : Int), 0 < o → (∀ z ∈ l, 0 < z) → prodC l o ≠ 0 → prodC l o = o * prodL l
  | [], o, _, _, _ => by simp [prodC, prodL]
  | z :: l, o, ho, hp, h => by
    simp only [prodC] at h ⊢
    split at h
    · exact absurd rfl h
    · rename_i hb
      rw [if_neg hb, prodC_eq l (o * z) (Int.mul_pos ho (hp z (by simp))) (fun y hy => hp y (by simp [hy])) h, prodL, Int.mul_assoc]

theorem prodL_zero {l : List Int} (h : (0 : Int) ∈ l) : prodL l = 0 := by
  induction l with
  | nil => simp at h
  | cons z l ih =>
    simp only [prodL]
    rcases List.mem_cons.1 h with h | h
    · rw [← h, Int.zero_mul]
    · rw [ih h, Int.mul_zero]

/-- how many cells: the product -/
theorem cnt_prod {s : List Int} (h : (cnt s).2 = 0) : (cnt s).1 = prodL s := by
  have hs := cnt_small h
  unfold cnt at h ⊢
  split at h
  · simp at h
  · rw [if_neg ‹_›]
    split at h
    · simp at h
    · rw [if_neg ‹_›]
      split at h
      · simp at h
      · rw [if_neg ‹_›]
        by_cases h0 : s.any (fun z => (0 : Int) == z) = true
        · rw [if_pos h0]
          obtain ⟨z, hz, e⟩ := List.any_eq_true.1 h0
          have : (0 : Int) = z := by simpa using e
          subst this
          exact (prodL_zero hz).symm
        · rw [if_neg h0] at h ⊢
          by_cases hp : prodC s 1 = 0
          · rw [if_pos hp] at h; simp at h
          · rw [if_neg hp]
            show prodC s 1 = prodL s
            rw [prodC_eq s 1 (by omega) (fun z hz => by
              have a := hs z hz
              have : z ≠ 0 := fun e => h0 (List.any_eq_true.2 ⟨z, hz, by simp [e]⟩)
              omega) hp, Int.one_mul]

/-- a power of 2048 bounds it -/
theorem prodL_pow : ∀ (l : List Int), Small l → prodL l ≤ 2048 ^ l.length
  | [], _ => by simp [prodL]
  | z :: l, h => by
    have hz := h z (by simp)
    have ih := prodL_pow l (fun y hy => h y (by simp [hy]))
    have h0 := prodL_nonneg l (fun y hy => (h y (by simp [hy])).1)
    simp only [prodL, List.length_cons, Int.pow_succ]
    calc z * prodL l ≤ 2048 * prodL l := Int.mul_le_mul_of_nonneg_right hz.2 h0
      _ ≤ 2048 * 2048 ^ l.length := Int.mul_le_mul_of_nonneg_left ih (by omega)
      _ = _ := Int.mul_comm _ _

theorem pow_le5 : ∀ n : Nat, n ≤ 5 → (2048 : Int) ^ n ≤ 36028797018963968
  | 0, _ => by decide
  | 1, _ => by decide
  | 2, _ => by decide
  | 3, _ => by decide
  | 4, _ => by decide
  | 5, _ => by decide
  | n + 6, h => by omega

/-- of the first axes of a shape that may be, none of them 0, the product is no more than 2 to the 55th -/
theorem prodL_take {s : List Int} (h : (cnt s).2 = 0) (k : Nat) : prodL (s.take k) ≤ 36028797018963968 := by
  have hl := cnt_len h
  have hs := cnt_small h
  by_cases hk : k < 6
  · have h1 := prodL_pow (s.take k) (fun z hz => hs z (List.mem_of_mem_take hz))
    have h2 : (s.take k).length ≤ 5 := by simp; omega
    have h3 := pow_le5 _ h2
    omega
  · rw [List.take_of_length_le (by omega)]
    have := cnt_prod h
    have := cnt_le s
    omega

/-- a step of Index -/
theorem idx_step {s : List Int} {k : Nat} {z p y : Int} (hc : (cnt s).2 = 0) (hz : s[k]? = some z) (hp0 : 0 ≤ p) (hp : p < prodL (s.take k)) (hy : 0 ≤ y) (hyz : y < z) :
    p * z + y < prodL (s.take (k + 1)) ∧ 0 ≤ p * z ∧ p * z ≤ 36028797018963968 ∧ p * z + y ≤ 36028797018963968 := by
  have hz0 : 0 < z := by omega
  have e : prodL (s.take (k + 1)) = prodL (s.take k) * z := by rw [takeA_snoc hz, prodL_append]; simp [prodL]
  have hb := prodL_take hc (k + 1)
  have h1 : p * z + z ≤ prodL (s.take k) * z := by
    have : (p + 1) * z ≤ prodL (s.take k) * z := Int.mul_le_mul_of_nonneg_right (by omega) (by omega)
    rw [Int.add_mul, Int.one_mul] at this; exact this
  have h2 := Int.mul_nonneg hp0 (Int.le_of_lt hz0)
  omega

theorem idxC_nil (ys : List Int) (o : Int) : idxC [] ys o = some o := by simp [idxC]

def idxF : Option Int → Int × Bool
  | none => (0, false)
  | some k => (k, true)

/-- which cell stands at a place -/
def idx (s at' : List Int) : Int × Bool :=
  if (cnt s).2 ≠ 0 ∨ at'.length ≠ s.length then (0, false) else idxF (idxC s at' 0)

end Go.Proofs.Ytmbigpjokpdnkaa
namespace Go.Proofs.Ytmbigpjokpdnkaa
set_option linter.unusedVariables false

/-- the place of a cell, from the last axis on: what is left of the number, and the place -/
def digR : List Int → Int → Int × List Int
  | [], n => (n, [])
  | z :: zs, n => ((digR zs n).1 / z, ((digR zs n).1 % z) :: (digR zs n).2)

theorem digR_len : ∀ (s : List Int) (n : Int), (digR s n).2.length = s.length
  | [], _ => rfl
  | z :: zs, n => by simp [digR, digR_len zs n]

theorem digR_zero : ∀ (s : List Int), (digR s 0).2 = List.replicate s.length 0 ∧ (digR s 0).1 = 0
  | [] => by simp [digR]
  | z :: s => by
    have ih := digR_zero s
    simp [digR, ih, List.replicate_succ]

/-- the next place, from the last axis on: is one carried, and the place -/
def incR : List Int → List Int → Bool × List Int
  | z :: zs, d :: ds => if (incR zs ds).1 then (if d + 1 < z then (false, (d + 1) :: (incR zs ds).2) else (true, 0 :: (incR zs ds).2)) else (false, d :: (incR zs ds).2)
  | _, ds => (true, ds)

theorem rep_set (j : Nat) (ds : List Int) (v : Int) : (List.replicate (j + 1) 0 ++ ds).set j v = List.replicate j 0 ++ v :: ds := by
  rw [List.replicate_succ', List.append_assoc, List.set_append_right _ _ (by simp)]; simp

theorem incR_len : ∀ (s d : List Int), (incR s d).2.length = d.length
  | [], d => by simp [incR]
  | z :: s, [] => by simp [incR]
  | z :: s, d :: ds => by
    simp only [incR]
    have ih := incR_len s ds
    split
    · split <;> simp [ih]
    · simp [ih]

theorem incR_nil (d : List Int) : incR [] d = (true, d) := by simp [incR]

/-- where nothing is carried, the axes ahead stand -/
theorem incR_stop : ∀ (k : Nat) (s d : List Int), s.length = d.length → k ≤ s.length → (incR (s.drop k) (d.drop k)).1 = false → incR s d = (false, d.take k ++ (incR (s.drop k) (d.drop k)).2)
  | 0, s, d, _, _, h => by simp only [List.drop_zero, List.take_zero, List.nil_append] at h ⊢; exact Prod.ext h rfl
  | k + 1, z :: s, x :: d, hl, hk, h => by
    simp only [List.drop_succ_cons] at h ⊢
    have ih := incR_stop k s d (by simpa using hl) (by simpa using hk) h
    simp only [incR]
    rw [ih]
    simp
  | k + 1, [], [], _, hk, _ => by simp at hk
  | k + 1, z :: s, [], hl, _, _ => by simp at hl
  | k + 1, [], x :: d, hl, _, _ => by simp at hl

end Go.Proofs.Ytmbigpjokpdnkaa
namespace Go.Proofs.Ytmbigpjokpdnkaa
set_option linter.unusedVariables false

theorem emod_mul_split (n z p : Int) (hz : 0 < z) (hp : 0 < p) : n % (z * p) = ((n / p) % z) * p + n % p := by
  have h1 := Int.mul_ediv_add_emod n p
  have h2 := Int.mul_ediv_add_emod (n / p) z
  have a1 := Int.emod_nonneg n (Int.ne_of_gt hp)
  have a2 := Int.emod_lt_of_pos n hp
  have b1 := Int.emod_nonneg (n / p) (Int.ne_of_gt hz)
  have b2 := Int.emod_lt_of_pos (n / p) hz
  generalize n % p = r at *
  generalize n / p = q at *
  generalize q % z = d at *
  generalize q / z = t at *
  have e : n = (d * p + r) + (z * p) * t := by rw [← h1, ← h2]; simp only [Int.mul_add]; ac_rfl
  have c1 : 0 ≤ d * p + r := by have := Int.mul_nonneg b1 (Int.le_of_lt hp); omega
  have c2 : d * p + r < z * p := by
    have : (d + 1) * p ≤ z * p := Int.mul_le_mul_of_nonneg_right (by omega) (by omega)
    rw [Int.add_mul, Int.one_mul] at this
    omega
  rw [e, Int.add_mul_emod_self_left]
  exact Int.emod_eq_of_lt c1 c2

theorem digR_fst : ∀ (s : List Int) (n : Int), (∀ z ∈ s, 0 < z) → (digR s n).1 = n / prodL s
  | [], n, _ => by simp [digR, prodL]
  | z :: s, n, h => by
    have ih := digR_fst s n (fun y hy => h y (by simp [hy]))
    have hp := prodL_pos s (fun y hy => h y (by simp [hy]))
    simp only [digR, ih, prodL]
    rw [Int.ediv_ediv_of_nonneg (Int.le_of_lt hp), Int.mul_comm]

/-- the cell of a cell's place is the cell -/
theorem idxC_digR : ∀ (s : List Int) (n o : Int), (∀ z ∈ s, 0 < z) → idxC s (digR s n).2 o = some (o * prodL s + n % prodL s)
  | [], n, o, _ => by simp [idxC, prodL, Int.emod_one]
  | z :: s, n, o, h => by
    have hs : ∀ y ∈ s, 0 < y := fun y hy => h y (by simp [hy])
    have hp := prodL_pos s hs
    have hz := h z (by simp)
    have h0 := Int.emod_nonneg (n / prodL s) (Int.ne_of_gt hz)
    have h1 := Int.emod_lt_of_pos (n / prodL s) hz
    simp only [digR, idxC, digR_fst s n hs, prodL]
    rw [if_neg (by omega), idxC_digR s n _ hs, emod_mul_split n z _ hz hp]
    congr 1
    simp only [Int.add_mul, Int.mul_assoc, Int.add_assoc]

/-- the place hangs on the number's rest alone -/
theorem digR_mod : ∀ (s : List Int) (m n : Int), (∀ z ∈ s, 0 < z) → m % prodL s = n % prodL s → (digR s m).2 = (digR s n).2
  | [], _, _, _, _ => rfl
  | z :: s, m, n, h, e => by
    have hs : ∀ y ∈ s, 0 < y := fun y hy => h y (by simp [hy])
    have hp := prodL_pos s hs
    have hz := h z (by simp)
    simp only [prodL] at e
    rw [emod_mul_split m z _ hz hp, emod_mul_split n z _ hz hp] at e
    have m1 := Int.emod_nonneg m (Int.ne_of_gt hp)
    have m2 := Int.emod_lt_of_pos m hp
    have n1 := Int.emod_nonneg n (Int.ne_of_gt hp)
    have n2 := Int.emod_lt_of_pos n hp
    have er : m % prodL s = n % prodL s := by
      have := congrArg (· % prodL s) e
      simp only [Int.add_comm _ (m % prodL s), Int.add_comm _ (n % prodL s), Int.add_mul_emod_self_right] at this
      rwa [Int.emod_eq_of_lt m1 m2, Int.emod_eq_of_lt n1 n2] at this
    have eq' : (m / prodL s) % z = (n / prodL s) % z := by
      rw [er] at e
      exact Int.eq_of_mul_eq_mul_right (Int.ne_of_gt hp) (by omega)
    simp only [digR, digR_fst s _ hs, eq', digR_mod s m n hs er]

/-- and the place of a place's cell is the place -/
theorem idxC_some : ∀ (s d : List Int) (o k : Int), d.length = s.length → idxC s d o = some k → ∃ j, 0 ≤ j ∧ j < prodL s ∧ k = o * prodL s + j ∧ d = (digR s j).2 ∧ ∀ z ∈ s, 0 < z
  | [], d, o, k, hl, h => by
    have : d = [] := List.eq_nil_of_length_eq_zero hl
    subst this
    simp [idxC] at h
    exact ⟨0, by omega, by simp [prodL], by simp [prodL, h], rfl, by simp⟩
  | z :: s, [], o, k, hl, h => by simp at hl
  | z :: s, y :: d, o, k, hl, h => by
    simp only [idxC] at h
    split at h
    · cases h
    · rename_i hy
      obtain ⟨j, j0, j1, jk, jd, js⟩ := idxC_some s d (o * z + y) k (by simpa using hl) h
      have hz : 0 < z := by omega
      have hp := prodL_pos s js
      have hy0 : 0 ≤ y := by omega
      have hy1 : y < z := by omega
      have c1 := Int.mul_nonneg hy0 (Int.le_of_lt hp)
      have c2 : y * prodL s + prodL s ≤ z * prodL s := by
        have : (y + 1) * prodL s ≤ z * prodL s := Int.mul_le_mul_of_nonneg_right (by omega) (by omega)
        rw [Int.add_mul, Int.one_mul] at this; exact this
      have e1 : (y * prodL s + j) / prodL s = y := by
        rw [Int.add_comm, Int.add_mul_ediv_right _ _ (by omega), Int.ediv_eq_zero_of_lt j0 j1]; omega
      have e2 : (y * prodL s + j) % prodL s = j := by
        rw [Int.add_comm, Int.add_mul_emod_self_right, Int.emod_eq_of_lt j0 j1]
      refine ⟨y * prodL s + j, by omega, by simp only [prodL]; omega, ?_, ?_, ?_⟩
      · rw [jk, prodL]; simp only [Int.add_mul, Int.mul_assoc, Int.add_assoc]
      · have hd : (digR s (y * prodL s + j)).2 = (digR s j).2 := by
          have a := idxC_digR s (y * prodL s + j) 0 js
          have b := idxC_digR s j 0 js
          exact digR_mod s _ _ js (by rw [e2, Int.emod_eq_of_lt j0 j1])
        simp only [digR, digR_fst s _ js, e1, hd, ← jd]
        rw [Int.emod_eq_of_lt hy0 hy1]
      · intro x hx
        rcases List.mem_cons.1 hx with rfl | hx
        · exact hz
        · exact js x hx

theorem digR_inj {s : List Int} {m n : Int} (h : ∀ z ∈ s, 0 < z) (hm0 : 0 ≤ m) (hm : m < prodL s) (hn0 : 0 ≤ n) (hn : n < prodL s) (e : (digR s m).2 = (digR s n).2) : m = n := by
  have a := idxC_digR s m 0 h
  have b := idxC_digR s n 0 h
  rw [e, b] at a
  simp only [Int.zero_mul, Int.zero_add, Option.some.injEq] at a
  rw [Int.emod_eq_of_lt hm0 hm, Int.emod_eq_of_lt hn0 hn] at a
  exact a.symm

/-- the next place is the next cell's -/
theorem incR_digR : ∀ (s : List Int) (n : Int), (∀ z ∈ s, 0 < z) → incR s (digR s n).2 = ((n + 1) % prodL s == 0, (digR s (n + 1)).2)
  | [], n, _ => by simp [incR, digR, prodL, Int.emod_one]
  | z :: s, n, h => by
    have hs : ∀ y ∈ s, 0 < y := fun y hy => h y (by simp [hy])
    have hp := prodL_pos s hs
    have hz := h z (by simp)
    have ih := incR_digR s n hs
    have h1 := Int.mul_ediv_add_emod n (prodL s)
    have a1 := Int.emod_nonneg n (Int.ne_of_gt hp)
    have a2 := Int.emod_lt_of_pos n hp
    have b1 := Int.emod_nonneg (n / prodL s) (Int.ne_of_gt hz)
    have b2 := Int.emod_lt_of_pos (n / prodL s) hz
    have h2 := Int.mul_ediv_add_emod (n / prodL s) z
    simp only [digR, incR, digR_fst s _ hs, prodL]
    rw [ih, emod_mul_split (n + 1) z _ hz hp]
    by_cases hc : n % prodL s + 1 = prodL s
    · have e0 : n + 1 = (n / prodL s + 1) * prodL s := by rw [Int.add_mul, Int.one_mul, Int.mul_comm]; omega
      have e1 : (n + 1) % prodL s = 0 := by rw [e0]; exact Int.mul_emod_left _ _
      have e2 : (n + 1) / prodL s = n / prodL s + 1 := by rw [e0]; exact Int.mul_ediv_cancel _ (Int.ne_of_gt hp)
      rw [e1, e2]
      by_cases hq : (n / prodL s) % z + 1 < z
      · have e3 : (n / prodL s + 1) % z = (n / prodL s) % z + 1 := by
          have : n / prodL s + 1 = ((n / prodL s) % z + 1) + z * (n / prodL s / z) := by omega
          rw [this, Int.add_mul_emod_self_left, Int.emod_eq_of_lt (by omega) hq]
        have hne : ¬ ((n / prodL s + 1) % z * prodL s + 0 = 0) := by
          rw [e3]
          have := Int.mul_pos (show 0 < (n / prodL s) % z + 1 by omega) hp
          omega
        simp [hq, e3]
        have := Int.mul_pos (show 0 < (n / prodL s) % z + 1 by omega) hp
        omega
      · have e3 : (n / prodL s + 1) % z = 0 := by
          have : n / prodL s + 1 = z * (n / prodL s / z + 1) := by rw [Int.mul_add, Int.mul_one]; omega
          rw [this]; exact Int.mul_emod_right _ _
        simp [hq, e3]
    · have e0 : n + 1 = (n % prodL s + 1) + prodL s * (n / prodL s) := by omega
      have e1 : (n + 1) % prodL s = n % prodL s + 1 := by
        rw [e0, Int.add_mul_emod_self_left]
        exact Int.emod_eq_of_lt (by omega) (by omega)
      have e2 : (n + 1) / prodL s = n / prodL s := by
        rw [e0, Int.add_mul_ediv_left _ _ (Int.ne_of_gt hp), Int.ediv_eq_zero_of_lt (by omega) (by omega)]; omega
      have hne : ¬ (n % prodL s + 1 = 0) := by omega
      rw [e1, e2]
      have c := Int.mul_nonneg b1 (Int.le_of_lt hp)
      simp [hne]
      omega

end Go.Proofs.Ytmbigpjokpdnkaa
