/- All labels of an array joined; how deep it is; an array as a cell. -/
import Derived.Test.YtmbigpjokpdnkaaArrG
import Derived.Test.YtmbigpjokpdnkaaNumA
import Derived.Test.YtmbigpjokpdnkaaLabA
namespace Go.Proofs.Ytmbigpjokpdnkaa
set_option linter.unusedVariables false
open Go.RowKit

mutual
def totA : Arr → Nat
  | .mk s _ cs => totCs cs s
def totCs : List Cell → Nat → Nat
  | [], n => n
  | c :: cs, n => totCs cs (totC c n)
def totC : Cell → Nat → Nat
  | .mk l _ _ _ ins, n => totAs ins (n ||| l)
def totAs : List Arr → Nat → Nat
  | [], n => n
  | a :: xs, n => totAs xs (n ||| totA a)
end

theorem totA_eq (A : Arr) : totA A = totCs A.cells A.s := by cases A; simp only [totA, Arr.cells, Arr.s]
theorem totC_eq (c : Cell) (n : Nat) : totC c n = totAs c.ins (n ||| c.l) := by cases c; simp only [totC, Cell.ins, Cell.l]
theorem totCs_at {cs : List Cell} {k : Nat} {c : Cell} (h : cs[k]? = some c) (n : Nat) : totCs (cs.drop k) n = totCs (cs.drop (k + 1)) (totAs c.ins (n ||| c.l)) := by
  rw [dropA_cons h, totCs, totC_eq]
theorem totAs_at {xs : List Arr} {k : Nat} {a : Arr} (h : xs[k]? = some a) (n : Nat) : totAs (xs.drop k) n = totAs (xs.drop (k + 1)) (n ||| totA a) := by
  rw [dropA_cons h, totAs]

mutual
theorem totA_lt : ∀ (A : Arr), okA A → totA A < 18446744073709551616
  | .mk s sh cs, h => by simp only [totA]; exact totCs_lt cs s h.2.2.2 h.1
theorem totCs_lt : ∀ (cs : List Cell) (n : Nat), okCs cs → n < 18446744073709551616 → totCs cs n < 18446744073709551616
  | [], n, _, h => by simpa [totCs] using h
  | c :: cs, n, h, hn => by
    simp only [totCs, okCs] at h ⊢
    exact totCs_lt cs _ h.2 (totC_lt c n h.1 hn)
theorem totC_lt : ∀ (c : Cell) (n : Nat), okC c → n < 18446744073709551616 → totC c n < 18446744073709551616
  | .mk l _ _ _ ins, n, h, hn => by
    simp only [totC, okC] at h ⊢
    exact totAs_lt ins _ h.2.2.2.2 (or_lt _ _ hn h.1)
theorem totAs_lt : ∀ (xs : List Arr) (n : Nat), okAs xs → n < 18446744073709551616 → totAs xs n < 18446744073709551616
  | [], n, _, h => by simpa [totAs] using h
  | a :: xs, n, h, hn => by
    simp only [totAs, okAs] at h ⊢
    exact totAs_lt xs _ h.2 (or_lt _ _ hn (totA_lt a h.1))
end
def aloneP (A : Arr) : Bool := A.shape.length == 0 && A.cells.length == 1

theorem aloneP_true {A : Arr} (h : aloneP A = true) : A.shape.length = 0 ∧ A.cells.length = 1 := by
  unfold aloneP at h
  simpa using h

mutual
def depA : Arr → Int
  | .mk s sh cs => if aloneP (.mk s sh cs) && (cs.getD 0 (.mk 0 0 ⟨false, [], []⟩ 0 [])).kind != 2 then 0 else depCs cs 0 + 1
def depCs : List Cell → Int → Int
  | [], n => n
  | c :: cs, n => depCs cs (depC c n)
def depC : Cell → Int → Int
  | .mk _ _ _ _ ins, n => depAs ins n
def depAs : List Arr → Int → Int
  | [], n => n
  | a :: xs, n => depAs xs (if depA a > n then depA a else n)
end

theorem depA_eq (A : Arr) : depA A = if aloneP A && (A.cells.getD 0 (.mk 0 0 ⟨false, [], []⟩ 0 [])).kind != 2 then 0 else depCs A.cells 0 + 1 := by cases A; unfold depA; rfl
theorem depC_eq (c : Cell) (n : Int) : depC c n = depAs c.ins n := by cases c; simp only [depC, Cell.ins]
theorem depCs_at {cs : List Cell} {k : Nat} {c : Cell} (h : cs[k]? = some c) (n : Int) : depCs (cs.drop k) n = depCs (cs.drop (k + 1)) (depAs c.ins n) := by
  rw [dropA_cons h, depCs, depC_eq]
theorem depAs_at {xs : List Arr} {k : Nat} {a : Arr} (h : xs[k]? = some a) (n : Int) : depAs (xs.drop k) n = depAs (xs.drop (k + 1)) (if depA a > n then depA a else n) := by
  rw [dropA_cons h, depAs]

theorem depAs_le {xs : List Arr} {m : Int} (h : ∀ x ∈ xs, 0 ≤ depA x ∧ depA x ≤ m) : ∀ n, 0 ≤ n → n ≤ m → 0 ≤ depAs xs n ∧ depAs xs n ≤ m := by
  induction xs with
  | nil => intro n h0 h1; simpa [depAs] using ⟨h0, h1⟩
  | cons a xs ih =>
    intro n h0 h1
    have ha := h a (by simp)
    simp only [depAs]
    refine ih (fun x hx => h x (by simp [hx])) _ ?_ ?_ <;> split <;> omega

theorem depCs_le {cs : List Cell} {m : Int} (h : ∀ c ∈ cs, ∀ x ∈ c.ins, 0 ≤ depA x ∧ depA x ≤ m) : ∀ n, 0 ≤ n → n ≤ m → 0 ≤ depCs cs n ∧ depCs cs n ≤ m := by
  induction cs with
  | nil => intro n h0 h1; simpa [depCs] using ⟨h0, h1⟩
  | cons c cs ih =>
    intro n h0 h1
    simp only [depCs, depC_eq]
    have := depAs_le (h c (by simp)) n h0 h1
    exact ih (fun x hx => h x (by simp [hx])) _ this.1 this.2

theorem depA_le : ∀ (d : Nat) (A : Arr), rightA d A = true → 0 ≤ depA A ∧ depA A ≤ d + 1
  | d, A, hr => by
    rw [depA_eq]
    split
    · omega
    · have := depCs_le (cs := A.cells) (m := d) (fun c hc x hx => by
        obtain ⟨e, he, hxe⟩ := right_in (rightCs_mem.1 (right_shape hr).2.2 c hc) x hx
        have := depA_le e x hxe
        omega) 0 (by omega) (by omega)
      omega
  termination_by d => d

/-- an array as a cell -/
def packC (A : Arr) : Cell := if aloneP A then (match A.cells with | .mk l k n c ins :: _ => .mk (l ||| A.s) k n c ins | [] => .mk 0 0 ⟨false, [], []⟩ 0 []) else .mk A.s 2 ⟨false, [], []⟩ 0 [A]

end Go.Proofs.Ytmbigpjokpdnkaa
