/- Right, thin, good arrays: what the reference answers. -/
import Derived.Test.YtmbigpjokpdnkaaArrP
namespace Go.Proofs.Ytmbigpjokpdnkaa
set_option linter.unusedVariables false
open Go.RowKit

set_option maxHeartbeats 4000000 in

def thinS : List Int → Int → Int
  | [], n => n
  | z :: zs, n => if n ≤ 100000 then thinS zs (if z > 0 then n * z else n) else n
mutual
def thinA : Arr → Bool
  | .mk _ sh cs => decide (thinS sh 1 ≤ 100000) && thinCs cs
def thinCs : List Cell → Bool
  | [] => true
  | c :: cs => thinC c && thinCs cs
def thinC : Cell → Bool
  | .mk _ _ _ _ ins => thinAs ins
def thinAs : List Arr → Bool
  | [] => true
  | a :: xs => thinA a && thinAs xs
end
theorem thinA_eq (A : Arr) : thinA A = (decide (thinS A.shape 1 ≤ 100000) && thinCs A.cells) := by cases A; unfold thinA; rfl
theorem thinC_eq (c : Cell) : thinC c = thinAs c.ins := by cases c; unfold thinC; rfl
theorem thinCs_at {cs : List Cell} {k : Nat} {c : Cell} (h : cs[k]? = some c) : thinCs (cs.drop k) = (thinC c && thinCs (cs.drop (k + 1))) := by
  obtain ⟨hk, rfl⟩ := List.getElem?_eq_some_iff.1 h
  rw [List.drop_eq_getElem_cons hk, thinCs]
theorem thinAs_at {cs : List Arr} {k : Nat} {c : Arr} (h : cs[k]? = some c) : thinAs (cs.drop k) = (thinA c && thinAs (cs.drop (k + 1))) := by
  obtain ⟨hk, rfl⟩ := List.getElem?_eq_some_iff.1 h
  rw [List.drop_eq_getElem_cons hk, thinAs]
theorem thinS_at {s : List Int} {k : Nat} {z : Int} (h : s[k]? = some z) (n : Int) (hn : n ≤ 100000) : thinS (s.drop k) n = thinS (s.drop (k + 1)) (if z > 0 then n * z else n) := by
  rw [dropA_cons h, thinS, if_pos hn]

theorem right_shape {d : Nat} {A : Arr} (h : rightA d A = true) : (cnt A.shape).2 = 0 ∧ (cnt A.shape).1 = A.cells.length ∧ rightCs d A.cells = true := by
  rw [rightA_eq, rcnt_eq] at h
  simp only [Bool.and_eq_true, beq_iff_eq] at h
  exact h
/-- what is in a right cell -/
theorem right_in {d : Nat} {c : Cell} (h : rightC d c = true) : ∀ x ∈ c.ins, ∃ e, e < d ∧ rightA e x = true := by
  intro x hx
  rw [rightC_eq] at h
  have hl : c.ins.length ≠ 0 := by cases hi : c.ins <;> simp_all
  split at h
  · simp only [Bool.and_eq_true, beq_iff_eq] at h; exact absurd h.2.1 hl
  · split at h
    · simp only [Bool.and_eq_true, beq_iff_eq] at h; exact absurd h.2.1 hl
    · simp only [Bool.and_eq_true, beq_iff_eq, decide_eq_true_eq] at h
      obtain ⟨_, _, _, h1, h2, h3⟩ := h
      match hi : c.ins, h1, h3, hx with
      | [y], _, h3, hx =>
        simp only [List.mem_singleton] at hx
        subst hx
        rw [rightB] at h3
        simp only [Bool.and_eq_true] at h3
        exact ⟨d - 1, by omega, h3.2⟩

def goodA (A : Arr) : Bool := fewP A && (rightA 8 A && thinA A)
theorem good_few {A : Arr} (h : goodA A = true) : fewP A = true := by unfold goodA at h; simp only [Bool.and_eq_true] at h; exact h.1
theorem good_right {A : Arr} (h : goodA A = true) : rightA 8 A = true := by unfold goodA at h; simp only [Bool.and_eq_true] at h; exact h.2.1
end Go.Proofs.Ytmbigpjokpdnkaa
