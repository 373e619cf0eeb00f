/- Arrays put together: the plain law. -/
import Derived.Test.YtfnilbkahkbljaaOperQ
namespace Go.Proofs.Ytfnilbkahkbljaa
set_option linter.unusedVariables false
open Go.RowKit

def wout (s : List Int) (x : Nat) : List Int := s.take x ++ s.drop (x + 1)

theorem wout_get (s : List Int) (x j : Nat) (hj : j ≠ x) (hx : x < s.length) : s[j]? = (wout s x)[if j < x then j else j - 1]? := by
  unfold wout
  by_cases h : j < x
  · rw [if_pos h, List.getElem?_append_left (by simp; omega), List.getElem?_take, if_pos h]
  · rw [if_neg h, List.getElem?_append_right (by simp; omega), List.getElem?_drop]
    congr 1
    simp
    omega

theorem wout_eq {s t : List Int} {x : Nat} (hl : s.length = t.length) (hx : x < s.length) : wout s x = wout t x ↔ ∀ j, j ≠ x → s[j]? = t[j]? := by
  constructor
  · intro h j hj
    rw [wout_get s x j hj hx, wout_get t x j hj (by omega), h]
  · intro h
    unfold wout
    congr 1
    · apply List.ext_getElem?
      intro i
      rw [List.getElem?_take, List.getElem?_take]
      split
      · exact h i (by omega)
      · rfl
    · apply List.ext_getElem?
      intro i
      rw [List.getElem?_drop, List.getElem?_drop]
      exact h _ (by omega)

/-- cells of a block, n at a time; a block of one cell alone has it everywhere -/
def rowL (al : Bool) (cs : List Cell) (i n : Nat) : List Cell := if al then List.replicate n (cs.getD 0 cellD) else (cs.drop (i * n)).take n
def cellP (al : Bool) (cs : List Cell) (k : Nat) : Cell := cs.getD (if al then 0 else k) cellD
theorem rowL_map (al : Bool) (cs : List Cell) (i n : Nat) (h : al = false → i * n + n ≤ cs.length) : rowL al cs i n = (List.range n).map fun r => cellP al cs (i * n + r) := by
  unfold rowL cellP
  cases al
  · simp only [Bool.false_eq_true, if_false]
    have h := h rfl
    apply List.ext_getElem
    · simp; omega
    · intro k h1 h2
      simp only [List.length_map, List.length_range] at h2
      rw [List.getElem_take, List.getElem_drop, List.getElem_map, List.getElem_range]
      rw [List.getD_eq_getElem?_getD, List.getElem?_eq_getElem (by omega)]
      rfl
  · simp only [if_true]
    apply List.ext_getElem
    · simp
    · intro k h1 h2
      simp

/-- the cell at a place of both blocks together -/
def catC (n1 n2 : Nat) (a1 : Bool) (c1 : List Cell) (a2 : Bool) (c2 : List Cell) (p : Nat) : Cell :=
  if p % (n1 + n2) < n1 then cellP a1 c1 (p / (n1 + n2) * n1 + p % (n1 + n2)) else cellP a2 c2 (p / (n1 + n2) * n2 + (p % (n1 + n2) - n1))
def catL (n1 n2 : Nat) (a1 : Bool) (c1 : List Cell) (a2 : Bool) (c2 : List Cell) (m : Nat) : List Cell := (List.range m).map (catC n1 n2 a1 c1 a2 c2)

theorem catL_len (n1 n2 : Nat) (a1 : Bool) (c1 : List Cell) (a2 : Bool) (c2 : List Cell) (m : Nat) : (catL n1 n2 a1 c1 a2 c2 m).length = m := by simp [catL]

theorem catL_step (n1 n2 : Nat) (a1 : Bool) (c1 : List Cell) (a2 : Bool) (c2 : List Cell) (i : Nat) (h1 : a1 = false → i * n1 + n1 ≤ c1.length) (h2 : a2 = false → i * n2 + n2 ≤ c2.length) :
    catL n1 n2 a1 c1 a2 c2 (i * (n1 + n2)) ++ rowL a1 c1 i n1 ++ rowL a2 c2 i n2 = catL n1 n2 a1 c1 a2 c2 ((i + 1) * (n1 + n2)) := by
  rw [rowL_map a1 c1 i n1 h1, rowL_map a2 c2 i n2 h2]
  unfold catL
  rw [Nat.add_mul, Nat.one_mul, List.range_add, List.map_append, List.append_assoc]
  congr 1
  rw [List.range_add, List.map_append, List.map_append]
  congr 1
  · rw [List.map_map]
    apply List.map_congr_left
    intro r hr
    rw [List.mem_range] at hr
    have e1 : (i * (n1 + n2) + r) % (n1 + n2) = r := by rw [Nat.add_comm, Nat.add_mul_mod_self_right, Nat.mod_eq_of_lt (by omega)]
    have e2 : (i * (n1 + n2) + r) / (n1 + n2) = i := by rw [Nat.add_comm, Nat.add_mul_div_right _ _ (by omega), Nat.div_eq_of_lt (by omega), Nat.zero_add]
    simp only [Function.comp, catC, e1, e2, if_pos hr]
  · rw [List.map_map, List.map_map]
    apply List.map_congr_left
    intro r hr
    rw [List.mem_range] at hr
    have e1 : (i * (n1 + n2) + (n1 + r)) % (n1 + n2) = n1 + r := by rw [Nat.add_comm, Nat.add_mul_mod_self_right, Nat.mod_eq_of_lt (by omega)]
    have e2 : (i * (n1 + n2) + (n1 + r)) / (n1 + n2) = i := by rw [Nat.add_comm, Nat.add_mul_div_right _ _ (by omega), Nat.div_eq_of_lt (by omega), Nat.zero_add]
    simp only [Function.comp, catC, e1, e2, if_neg (show ¬ n1 + r < n1 by omega), Nat.add_sub_cancel_left]
end Go.Proofs.Ytfnilbkahkbljaa
