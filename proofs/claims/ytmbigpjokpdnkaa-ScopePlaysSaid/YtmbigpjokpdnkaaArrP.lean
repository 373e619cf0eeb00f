/- Right arrays, in the reference's words. -/
import Derived.Test.YtmbigpjokpdnkaaNatW
import Derived.Test.YtmbigpjokpdnkaaShQ
import Derived.Test.YtmbigpjokpdnkaaHideQ
namespace Go.Proofs.Ytmbigpjokpdnkaa
set_option linter.unusedVariables false
open Go.RowKit

theorem chk_at {s : List Int} {k : Nat} {z : Int} (h : s[k]? = some z) (b n : Bool) : chk (s.drop k) b n = if z < 0 then none else chk (s.drop (k + 1)) (b || decide (2048 < z)) (n || z == 0) := by
  rw [dropA_cons h, chk]
theorem mulC_at {s : List Int} {k : Nat} {z : Int} (h : s[k]? = some z) (o : Int) : mulC (s.drop k) o = if o * z > 2048 then none else mulC (s.drop (k + 1)) (o * z) := by
  rw [dropA_cons h, mulC]

def zeroN (n : Num) : Bool := !n.neg && (n.top.length == 0 && n.bot.length == 0)
def simpleA (A : Arr) : Bool := A.shape.length == 0 && (A.cells.length == 1 && (match A.cells with | c :: _ => c.kind != 2 | [] => false))
def mayC (c : Int) : Bool := decide (0 ≤ c) && (decide (c ≤ 1114111) && (decide (c < 55296) || decide (c > 57343)))

mutual
def rightA (d : Nat) : Arr → Bool
  | .mk _ sh cs => ((rcnt sh).2 == 0) && (((rcnt sh).1 == (cs.length : Int)) && rightCs d cs)
def rightCs (d : Nat) : List Cell → Bool
  | [] => true
  | c :: cs => rightC d c && rightCs d cs
def rightC (d : Nat) : Cell → Bool
  | .mk _ k n c ins => if k = 0 then (c == 0) && ((ins.length == 0) && rightN n)
    else if k = 1 then zeroN n && ((ins.length == 0) && mayC c)
    else (k == 2) && (zeroN n && ((c == 0) && ((ins.length == 1) && (decide (0 < d) && rightB (d - 1) ins))))
def rightB (d : Nat) : List Arr → Bool
  | [] => false
  | a :: _ => !simpleA a && rightA d a
end

theorem rightA_eq (d : Nat) (A : Arr) : rightA d A = (((rcnt A.shape).2 == 0) && (((rcnt A.shape).1 == (A.cells.length : Int)) && rightCs d A.cells)) := by cases A; unfold rightA; rfl
theorem rightC_eq (d : Nat) (c : Cell) : rightC d c = if c.kind = 0 then (c.c == 0) && ((c.ins.length == 0) && rightN c.n)
    else if c.kind = 1 then zeroN c.n && ((c.ins.length == 0) && mayC c.c)
    else (c.kind == 2) && (zeroN c.n && ((c.c == 0) && ((c.ins.length == 1) && (decide (0 < d) && rightB (d - 1) c.ins)))) := by cases c; unfold rightC; rfl
theorem rightCs_at {cs : List Cell} {k : Nat} {c : Cell} (h : cs[k]? = some c) (d : Nat) : rightCs d (cs.drop k) = (rightC d c && rightCs d (cs.drop (k + 1))) := by
  obtain ⟨hk, rfl⟩ := List.getElem?_eq_some_iff.1 h
  rw [List.drop_eq_getElem_cons hk, rightCs]
theorem rightCs_mem {d : Nat} : ∀ {cs : List Cell}, rightCs d cs = true ↔ ∀ c ∈ cs, rightC d c = true
  | [] => by simp [rightCs]
  | c :: cs => by simp only [rightCs, Bool.and_eq_true, List.mem_cons, forall_eq_or_imp, rightCs_mem]

end Go.Proofs.Ytmbigpjokpdnkaa
