/- Plain functions on shapes: what the functions of layer 7 compute; no program in sight. -/
import Derived.Test.YtfnilbkahkbljaaAbs9
namespace Go.Proofs.Ytfnilbkahkbljaa
set_option linter.unusedVariables false

def idxFrom (p : Int → Bool) : List Int → Nat → Int
  | [], _ => -1
  | z :: zs, i => if p z then i else idxFrom p zs (i + 1)

theorem idxFrom_ge (p : Int → Bool) : ∀ (zs : List Int) (i : Nat), decide (idxFrom p zs i ≥ 0) = zs.any p
  | [], _ => rfl
  | z :: zs, i => by
    simp only [idxFrom, List.any_cons]
    by_cases h : p z = true
    · simp [h]
    · have := idxFrom_ge p zs (i + 1)
      simp only [Bool.not_eq_true] at h
      simp [h]
      simpa using this

/-- the product of lengths; 0: above 2048 -/
def prodC : List Int → Int → Int
  | [], o => o
  | z :: zs, o => if o * z > 2048 then 0 else prodC zs (o * z)

/-- how many cells, and the error -/
def cnt (s : List Int) : Int × Int :=
  if s.length > 6 then (0, 7) else if s.any (· < 0) then (0, 3) else if s.any (· > 2048) then (0, 7) else if s.any (fun z => (0 : Int) == z) then (0, 0)
  else if prodC s 1 = 0 then (0, 7) else (prodC s 1, 0)

/-- the reference's first loop: is a number below 0 (none), is one above 2048, is one 0 -/
def chk : List Int → Bool → Bool → Option (Bool × Bool)
  | [], b, n => some (b, n)
  | z :: zs, b, n => if z < 0 then none else chk zs (b || decide (2048 < z)) (n || z == 0)

/-- its second loop -/
def mulC : List Int → Int → Option Int
  | [], o => some o
  | z :: zs, o => if o * z > 2048 then none else mulC zs (o * z)

def rfin2 : Option Int → Int × Int
  | none => (0, 7)
  | some o => (o, 0)
def rfin : Option (Bool × Bool) → Option Int → Int × Int
  | none, _ => (0, 3)
  | some (true, _), _ => (0, 7)
  | some (false, true), _ => (0, 0)
  | some (false, false), m => rfin2 m
def rcnt (s : List Int) : Int × Int :=
  if s.length > 6 then (0, 7) else rfin (chk s false false) (mulC s 1)

theorem chk_eq : ∀ (s : List Int) (b n : Bool), chk s b n = if s.any (· < 0) then none else some (b || s.any (· > 2048), n || s.any (fun z => (0 : Int) == z))
  | [], b, n => by simp [chk]
  | z :: s, b, n => by
    simp only [chk, List.any_cons]
    by_cases h : z < 0
    · simp [h]
    · have e : ((0 : Int) == z) = (z == 0) := by rw [Bool.eq_iff_iff]; simp; omega
      rw [if_neg h, chk_eq s, e]; simp [h, Bool.or_assoc]

theorem mulC_eq : ∀ (s : List Int) (o : Int), 0 < o → (∀ z ∈ s, 0 < z) → mulC s o = if prodC s o = 0 then none else some (prodC s o)
  | [], o, h, _ => by
    have e : prodC [] o ≠ 0 := by show o ≠ 0; omega
    rw [if_neg e]; rfl
  | z :: s, o, h, hz => by
    simp only [mulC, prodC]
    split
    · simp
    · exact mulC_eq s (o * z) (Int.mul_pos h (hz z (by simp))) (fun y hy => hz y (by simp [hy]))

theorem rcnt_eq (s : List Int) : rcnt s = cnt s := by
  unfold rcnt cnt
  split
  · rfl
  · rw [chk_eq]
    by_cases h1 : s.any (· < 0) = true
    · simp [h1, rfin]
    · simp only [h1, Bool.false_eq_true, if_false, Bool.false_or]
      by_cases h2 : s.any (· > 2048) = true
      · simp [h2, rfin]
      · simp only [h2, Bool.false_eq_true, if_false]
        by_cases h3 : s.any (fun z => (0 : Int) == z) = true
        · simp [h3, rfin]
        · simp only [h3, Bool.false_eq_true, if_false]
          rw [mulC_eq s 1 (by omega) (fun z hz => by
            simp only [List.any_eq_true, not_exists, not_and] at h1 h3
            have a := h1 z hz; have b := h3 z hz; simp at a b; omega)]
          by_cases h4 : prodC s 1 = 0 <;> simp [h4, rfin, rfin2]

/-- the cell of a place, step by step -/
def idxC : List Int → List Int → Int → Option Int
  | n :: s, i :: at', o => if i < 0 ∨ n ≤ i then none else idxC s at' (o * n + i)
  | _, _, o => some o

/-- in range: what the product is asked of -/
def Small (s : List Int) : Prop := ∀ z ∈ s, 0 ≤ z ∧ z ≤ 2048

theorem small_of {s : List Int} (h1 : s.any (· < 0) = false) (h2 : s.any (· > 2048) = false) : Small s := fun z hz => by
  simp only [List.any_eq_false] at h1 h2
  have a := h1 z hz; have b := h2 z hz; simp at a b; omega

theorem small_of_chk {s : List Int} {N : Bool} (h : chk s false false = some (false, N)) : Small s := by
  rw [chk_eq] at h
  split at h
  · cases h
  · rename_i h1
    simp only [Bool.false_or, Option.some.injEq, Prod.mk.injEq] at h
    exact small_of (by simpa using h1) h.1

end Go.Proofs.Ytfnilbkahkbljaa
