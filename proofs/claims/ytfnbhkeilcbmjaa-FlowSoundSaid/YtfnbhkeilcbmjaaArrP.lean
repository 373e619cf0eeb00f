/- Right arrays, in the reference's words. -/
import Derived.Test.YtfnbhkeilcbmjaaNatW
import Derived.Test.YtfnbhkeilcbmjaaShQ
import Derived.Test.YtfnbhkeilcbmjaaHideQ
namespace Go.Proofs.Ytfnbhkeilcbmjaa
set_option linter.unusedVariables false
open Go.RowKit

theorem chk_at {s : List Int} {k : Nat} {z : Int} (h : s[k]? = some z) (b n : Bool) : chk (s.drop k) b n = if z < 0 then none else chk (s.drop (k + 1)) (b || decide (2048 < z)) (n || z == 0) := by
  rw [dropA_cons h, chk]
theorem mulC_at {s : List Int} {k : Nat} {z : Int} (h : s[k]? = some z) (o : Int) : mulC (s.drop k) o = if o * z > 2048 then none else mulC (s.drop (k + 1)) (o * z) := by
  rw [dropA_cons h, mulC]

set_option maxHeartbeats 1000000 in
theorem rcount_a (s : List Int) : ACalls Try.prog 64 [.sl 1 (intsA .i64 s)] (.tup [.lit (.int .i64 (rcnt s).1), .lit (.int .i64 (rcnt s).2)]) := by
  have ls := intsA_len .i64 s
  refine acalls_of code_scrimref07_Count (by simp [fn_scrimref07_Count]) fun C hC => ?_
  by_cases h6 : s.length > 6
  · rw [show rcnt s = (0, 7) from by rw [rcnt, if_pos h6]]
    refine walk2 ?_
    exact fin
  generalize hR : rcnt s = R
  rw [rcnt, if_neg h6] at hR
  refine walk2 ?_
  refine aw_loopB [0, 2, 3] [] (fun p : Nat × Bool × Bool => [(4, .lit (.bool p.2.1)), (5, .lit (.bool p.2.2)), (6, .lit (.int .i64 p.1))]) (fun _ => []) 0
    (fun p => p.1 ≤ s.length ∧ chk s false false = chk (s.drop p.1) p.2.1 p.2.2) (fun p => s.length - p.1) (0, false, false) ⟨Nat.zero_le _, rfl⟩ ?_
  rintro ⟨k, b, n⟩ ⟨hk, hE⟩
  simp only at hk hE
  dsimp only [List.cons_append, List.nil_append]
  by_cases hlt : k < s.length
  · obtain ⟨z, hz⟩ : ∃ z, s[k]? = some z := ⟨_, List.getElem?_eq_getElem hlt⟩
    have hzk := int_at (k := .i64) hz
    rw [chk_at hz] at hE
    by_cases h0 : z < 0
    · rw [if_pos h0] at hE
      rw [hE, rfin] at hR
      subst hR
      refine walk2 ?_
      exact fin
    · rw [if_neg h0] at hE
      cases hB : decide (2048 < z) <;> cases hN : (z == 0) <;> cases b <;> cases n
      all_goals
        have hB' := hB
        have hN' := hN
        simp only [decide_eq_true_eq, decide_eq_false_iff_not, beq_iff_eq, beq_eq_false_iff_ne, ne_eq] at hB' hN'
        rw [hB, hN] at hE
        first
          | (exfalso; omega)
          | (refine walk2 ?_
             exact ⟨(k + 1, _, _), by simp only; omega, ⟨by simp only; omega, hE⟩, wkR hC.m []⟩)
  · rw [List.drop_eq_nil_of_le (by omega), chk] at hE
    rw [hE] at hR
    cases b
    · cases n
      · rw [rfin] at hR
        have hsm := small_of_chk hE
        refine walk2 ?_
        refine aw_loopB [0, 2, 3] [] (fun p : Nat × Int => [(7, .lit (.int .i64 p.2)), (8, .lit (.int .i64 p.1))]) (fun _ => []) 0
          (fun p => p.1 ≤ s.length ∧ 0 ≤ p.2 ∧ p.2 ≤ 2048 ∧ mulC s 1 = mulC (s.drop p.1) p.2) (fun p => s.length - p.1) (0, 1) ⟨Nat.zero_le _, by simp only; omega, by simp only; omega, rfl⟩ ?_
        rintro ⟨i, o⟩ ⟨hi, o0, o1, hM⟩
        simp only at hi o0 o1 hM
        dsimp only [List.cons_append, List.nil_append]
        by_cases hli : i < s.length
        · obtain ⟨z, hz⟩ : ∃ z, s[i]? = some z := ⟨_, List.getElem?_eq_getElem hli⟩
          have hzk := int_at (k := .i64) hz
          have hzr := hsm z (List.mem_of_getElem? hz)
          rw [mulC_at hz] at hM
          have m0 : 0 ≤ o * z := Int.mul_nonneg o0 hzr.1
          have m1 : o * z ≤ 2048 * 2048 := Int.mul_le_mul o1 hzr.2 hzr.1 (by omega)
          have hm : -9223372036854775808 ≤ o * z ∧ o * z ≤ 9223372036854775807 := by omega
          by_cases hg : o * z > 2048
          · rw [if_pos hg] at hM
            rw [hM, rfin2] at hR
            subst hR
            refine walk2 ?_
            exact fin
          · rw [if_neg hg] at hM
            refine walk2 ?_
            exact ⟨(i + 1, o * z), by simp only; omega, ⟨by simp only; omega, m0, by simp only; omega, hM⟩, wkR hC.m []⟩
        · rw [List.drop_eq_nil_of_le (by omega), mulC] at hM
          rw [hM, rfin2] at hR
          subst hR
          refine walk2 ?_
          exact fin
      · rw [rfin] at hR
        subst hR
        refine walk2 ?_
        exact fin
    · rw [show rfin (some (true, n)) (mulC s 1) = (0, 7) from by rw [rfin]] at hR
      subst hR
      refine walk2 ?_
      exact fin

def zeroN (n : Num) : Bool := !n.neg && (n.top.length == 0 && n.bot.length == 0)
def simpleA (A : Arr) : Bool := A.shape.length == 0 && (A.cells.length == 1 && (match A.cells with | c :: _ => c.kind != 2 | [] => false))
def mayC (c : Int) : Bool := decide (0 ≤ c) && (decide (c ≤ 1114111) && (decide (c < 55296) || decide (c > 57343)))

mutual
def rightA (d : Nat) : Arr → Bool
  | .mk _ sh cs => ((rcnt sh).2 == 0) && (((rcnt sh).1 == (cs.length : Int)) && rightCs d cs)
def rightCs (d : Nat) : List Cell → Bool
  | [] => true
  | c :: cs => rightC d c && rightCs d cs
def rightC (d : Nat) : Cell → Bool
  | .mk _ k n c ins => if k = 0 then (c == 0) && ((ins.length == 0) && rightN n)
    else if k = 1 then zeroN n && ((ins.length == 0) && mayC c)
    else (k == 2) && (zeroN n && ((c == 0) && ((ins.length == 1) && (decide (0 < d) && rightB (d - 1) ins))))
def rightB (d : Nat) : List Arr → Bool
  | [] => false
  | a :: _ => !simpleA a && rightA d a
end

theorem rightA_eq (d : Nat) (A : Arr) : rightA d A = (((rcnt A.shape).2 == 0) && (((rcnt A.shape).1 == (A.cells.length : Int)) && rightCs d A.cells)) := by cases A; unfold rightA; rfl
theorem rightC_eq (d : Nat) (c : Cell) : rightC d c = if c.kind = 0 then (c.c == 0) && ((c.ins.length == 0) && rightN c.n)
    else if c.kind = 1 then zeroN c.n && ((c.ins.length == 0) && mayC c.c)
    else (c.kind == 2) && (zeroN c.n && ((c.c == 0) && ((c.ins.length == 1) && (decide (0 < d) && rightB (d - 1) c.ins)))) := by cases c; unfold rightC; rfl
theorem rightCs_at {cs : List Cell} {k : Nat} {c : Cell} (h : cs[k]? = some c) (d : Nat) : rightCs d (cs.drop k) = (rightC d c && rightCs d (cs.drop (k + 1))) := by
  obtain ⟨hk, rfl⟩ := List.getElem?_eq_some_iff.1 h
  rw [List.drop_eq_getElem_cons hk, rightCs]
theorem rightCs_mem {d : Nat} : ∀ {cs : List Cell}, rightCs d cs = true ↔ ∀ c ∈ cs, rightC d c = true
  | [] => by simp [rightCs]
  | c :: cs => by simp only [rightCs, Bool.and_eq_true, List.mem_cons, forall_eq_or_imp, rightCs_mem]

theorem zero_a (n : Num) : ACalls Try.prog 79 [.agg (numV n)] (.lit (.bool (zeroN n))) := by
  have lt := intsA_len .u32 n.top
  have lb := intsA_len .u32 n.bot
  refine acalls_of code_scrimref08_zero (by simp [fn_scrimref08_zero]) fun C hC => ?_
  obtain ⟨g, t, b⟩ := n
  simp only [zeroN] at lt lb ⊢
  cases g
  · by_cases h1 : t.length = 0
    · by_cases h2 : b.length = 0
      · rw [h1, h2]
        refine walk2 ?_
        exact fin
      · rw [h1, nat_beq_ne h2]
        refine walk2 ?_
        exact fin
    · rw [nat_beq_ne h1]
      refine walk2 ?_
      exact fin
  · refine walk2 ?_
    exact fin

theorem may_a (c : Int) : ACalls Try.prog 80 [.lit (.int .i64 c)] (.lit (.bool (mayC c))) := by
  refine acalls_of code_scrimref06_May (by simp [fn_scrimref06_May]) fun C hC => ?_
  unfold mayC
  by_cases h1 : 0 ≤ c
  · by_cases h2 : c ≤ 1114111
    · by_cases h3 : c < 55296
      · simp only [h1, h2, h3, decide_true, Bool.true_and, Bool.true_or]
        refine walk2 ?_
        exact fin
      · by_cases h4 : c > 57343
        · simp only [h1, h2, h3, h4, decide_true, decide_false, Bool.true_and, Bool.false_or]
          refine walk2 ?_
          exact fin
        · simp only [h1, h2, h3, h4, decide_true, decide_false, Bool.true_and, Bool.false_or]
          refine walk2 ?_
          exact fin
    · simp only [h1, h2, decide_true, decide_false, Bool.true_and, Bool.false_and]
      refine walk2 ?_
      exact fin
  · simp only [h1, decide_false, Bool.false_and]
    refine walk2 ?_
    exact fin

theorem simple_a (A : Arr) : ACalls Try.prog 81 [.agg (arrV A)] (.lit (.bool (simpleA A))) := by
  have lsh := intsA_len .i64 A.shape
  have lcs := cells_len A
  refine acalls_of code_scrimref08_Simple (by simp [fn_scrimref08_Simple]) fun C hC => ?_
  unfold simpleA
  by_cases h1 : A.shape.length = 0
  · rw [h1, beq_self_eq_true, Bool.true_and]
    by_cases h2 : A.cells.length = 1
    · rw [h2, beq_self_eq_true, Bool.true_and]
      obtain ⟨c, hc⟩ : ∃ c, A.cells[0]? = some c := ⟨_, List.getElem?_eq_getElem (by omega)⟩
      have hck := cell_at hc
      have e : (match A.cells with | c :: _ => c.kind != 2 | [] => false) = (c.kind != 2) := by
        match hA : A.cells, hc with
        | c' :: r, hc => simp at hc; subst hc; rfl
      rw [e]
      by_cases h3 : c.kind = 2
      · rw [h3]
        refine walk2 ?_
        exact fin
      · rw [show (c.kind != 2) = true from by simpa using h3]
        refine walk2 ?_
        exact fin
    · rw [nat_beq_ne h2]
      refine walk2 ?_
      exact fin
  · rw [nat_beq_ne h1]
    refine walk2 ?_
    exact fin
end Go.Proofs.Ytfnbhkeilcbmjaa
