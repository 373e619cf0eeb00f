/- array.equal: two arrays compared through closures. -/
import Derived.Test.YtmbigpjokpdnkaaSameP
namespace Go.Proofs.Ytmbigpjokpdnkaa
set_option linter.unusedVariables false
open Go.RowKit

/-- the captured flag -/
abbrev flagV (st : Bool) : AV := .ep 1 [[.lit (.bool st)]] 0 0

def eqL {α : Type} (p : α → α → Bool) : List α → List α → Bool
  | [], [] => true
  | x :: xs, y :: ys => p x y && eqL p xs ys
  | _, _ => false

theorem eqL_drop {α : Type} (p : α → α → Bool) {cs ds : List α} {k : Nat} {c d : α} (hc : cs[k]? = some c) (hd : ds[k]? = some d) : eqL p (cs.drop k) (ds.drop k) = (p c d && eqL p (cs.drop (k + 1)) (ds.drop (k + 1))) := by
  obtain ⟨h1, rfl⟩ := List.getElem?_eq_some_iff.1 hc
  obtain ⟨h2, rfl⟩ := List.getElem?_eq_some_iff.1 hd
  rw [List.drop_eq_getElem_cons h1, List.drop_eq_getElem_cons h2, eqL]
theorem eqL_len {α : Type} (p : α → α → Bool) : ∀ (cs ds : List α), ¬ cs.length = ds.length → eqL p cs ds = false
  | [], [], h => absurd rfl h
  | [], _ :: _, _ => rfl
  | _ :: _, [], _ => rfl
  | c :: cs, d :: ds, h => by rw [eqL, eqL_len p cs ds (by simpa using h), Bool.and_false]

theorem map_len {α β : Type} (f : α → β) (xs : List α) : ((xs.map f).length : Int) = xs.length := by simp


mutual
/-- the same, the labels too when st says so -/
def eqvA (st : Bool) : Arr → Arr → Bool
  | .mk s sh cs, .mk s2 sh2 cs2 => (!st || s == s2) && (intsP sh sh2 && eqvCs st cs cs2)
def eqvCs (st : Bool) : List Cell → List Cell → Bool
  | [], [] => true
  | c :: cs, d :: ds => eqvC st c d && eqvCs st cs ds
  | _, _ => false
def eqvC (st : Bool) : Cell → Cell → Bool
  | .mk l k n c ins, .mk l2 k2 n2 c2 ins2 => (!st || l == l2) && ((k == k2) && ((c == c2) && (numP n n2 && eqvAs st ins ins2)))
def eqvAs (st : Bool) : List Arr → List Arr → Bool
  | [], [] => true
  | c :: cs, d :: ds => eqvA st c d && eqvAs st cs ds
  | _, _ => false
end

theorem eqvCs_eqL (st : Bool) : ∀ (cs ds : List Cell), eqvCs st cs ds = eqL (eqvC st) cs ds
  | [], [] => by simp [eqvCs, eqL]
  | [], _ :: _ => by simp [eqvCs, eqL]
  | _ :: _, [] => by simp [eqvCs, eqL]
  | c :: cs, d :: ds => by rw [eqvCs, eqL, eqvCs_eqL st cs ds]
theorem eqvAs_eqL (st : Bool) : ∀ (cs ds : List Arr), eqvAs st cs ds = eqL (eqvA st) cs ds
  | [], [] => by simp [eqvAs, eqL]
  | [], _ :: _ => by simp [eqvAs, eqL]
  | _ :: _, [] => by simp [eqvAs, eqL]
  | c :: cs, d :: ds => by rw [eqvAs, eqL, eqvAs_eqL st cs ds]

theorem eqvA_eq (st : Bool) (A B : Arr) : eqvA st A B = ((!st || A.s == B.s) && (intsP A.shape B.shape && eqL (eqvC st) A.cells B.cells)) := by cases A; cases B; simp only [eqvA, Arr.s, Arr.shape, Arr.cells, eqvCs_eqL]
theorem eqvC_eq (st : Bool) (c d : Cell) : eqvC st c d = ((!st || c.l == d.l) && ((c.kind == d.kind) && ((c.c == d.c) && (numP c.n d.n && eqL (eqvA st) c.ins d.ins)))) := by cases c; cases d; simp only [eqvC, Cell.l, Cell.kind, Cell.c, Cell.n, Cell.ins, eqvAs_eqL]

mutual
theorem eqvA_same : ∀ (A B : Arr), eqvA true A B = sameA A B
  | .mk s sh cs, .mk s2 sh2 cs2 => by rw [eqvA, sameA, eqvCs_same cs cs2]; rfl
theorem eqvCs_same : ∀ (cs ds : List Cell), eqvCs true cs ds = sameCs cs ds
  | [], [] => by simp [eqvCs, sameCs]
  | [], _ :: _ => by simp [eqvCs, sameCs]
  | _ :: _, [] => by simp [eqvCs, sameCs]
  | c :: cs, d :: ds => by rw [eqvCs, sameCs, eqvC_same c d, eqvCs_same cs ds]
theorem eqvC_same : ∀ (c d : Cell), eqvC true c d = sameC c d
  | .mk l k n c ins, .mk l2 k2 n2 c2 ins2 => by rw [eqvC, sameC, eqvAs_same ins ins2]; rfl
theorem eqvAs_same : ∀ (cs ds : List Arr), eqvAs true cs ds = sameAs cs ds
  | [], [] => by simp [eqvAs, sameAs]
  | [], _ :: _ => by simp [eqvAs, sameAs]
  | _ :: _, [] => by simp [eqvAs, sameAs]
  | c :: cs, d :: ds => by rw [eqvAs, sameAs, eqvA_same c d, eqvAs_same cs ds]
end

theorem flag_no {st : Bool} {a b : Nat} (h : false = (!st || a == b)) : st = true ∧ ¬ a = b := by
  cases st
  · cases h
  · exact ⟨rfl, fun e => by simp [e] at h⟩
theorem flag_yes {st : Bool} {a b : Nat} (h : true = (!st || a == b)) : st = false ∨ (st = true ∧ a = b) := by
  cases st
  · exact .inl rfl
  · exact .inr ⟨rfl, by simpa using h⟩

end Go.Proofs.Ytmbigpjokpdnkaa
