/- Lines along an axis: what oper.Lines and the reference answer. -/
import Derived.Test.YtfnilbkahkbljaaOperQ
import Derived.Test.YtfnilbkahkbljaaNumB
import Derived.Test.YtfnilbkahkbljaaArrG
import Derived.Test.YtfnilbkahkbljaaLabP
import Derived.Test.YtfnilbkahkbljaaCodeD
namespace Go.Proofs.Ytfnilbkahkbljaa
set_option linter.unusedVariables false
open Go.RowKit

def axisN (s : List Int) (first : Bool) : Nat := if first then 0 else s.length - 1
def restP (s : List Int) (x : Nat) : List Int := s.take x ++ s.drop (x + 1)

theorem along_err (s : List Int) (first : Bool) (h0 : 0 < s.length) (hl : s.length ≤ maxB) (he : (cnt (restP s (axisN s first))).2 ≠ 0) :
    ACalls Try.prog 56 [.sl 1 (intsA .i64 s), .lit (.bool first)] (.tup [.sl 1 (intsA .i64 (restP s (axisN s first))), .lit (.int .i64 0), .lit (.int .i64 0), .lit (.int .i64 0), .lit (.bool false)]) := by
  have hB : maxB = 1000000000 := rfl
  have ls := intsA_len .i64 s
  have ha : axisN s first < s.length := by unfold axisN; split <;> omega
  have c1 := shWithout_a s (axisN s first) ha hl
  have c2 := count_a (restP s (axisN s first))
  unfold restP at c2 he ⊢
  generalize hR : List.take (axisN s first) s ++ List.drop (axisN s first + 1) s = R at c1 c2 he ⊢
  refine acalls_of code_oper_along (by simp [fn_oper_along]) fun C hC => ?_
  generalize (cnt R).2 = e at c2 he
  generalize (cnt R).1 = n at c2
  cases first
  · have ex : ((axisN s false : Nat) : Int) = (s.length : Int) - 1 := by simp [axisN]; omega
    rw [ex] at c1
    refine walk2 ?_
    exact fin
  · have ex : ((axisN s true : Nat) : Int) = 0 := by simp [axisN]
    rw [ex] at c1
    refine walk2 ?_
    exact fin

theorem along_ok (s : List Int) (first : Bool) (z a b : Int) (h1 : (cnt s).2 = 0) (hz : s[axisN s first]? = some z) (he : (cnt (restP s (axisN s first))).2 = 0)
    (ha : prodC (s.take (axisN s first)) 1 = a) (hb : prodC (s.drop (axisN s first + 1)) 1 = b) :
    ACalls Try.prog 56 [.sl 1 (intsA .i64 s), .lit (.bool first)] (.tup [.sl 1 (intsA .i64 (restP s (axisN s first))), .lit (.int .i64 a), .lit (.int .i64 z), .lit (.int .i64 b), .lit (.bool true)]) := by
  have hB : maxB = 1000000000 := rfl
  have ls := intsA_len .i64 s
  have hl6 := cnt_len h1
  have hx := (List.getElem?_eq_some_iff.1 hz).1
  have c1 := shWithout_a s (axisN s first) hx (by omega)
  have c2 := count_a (restP s (axisN s first))
  have c3 := shAround_a s (axisN s first) z h1 hz
  rw [ha, hb] at c3
  rw [he] at c2
  unfold restP at c2 ⊢
  generalize hR : List.take (axisN s first) s ++ List.drop (axisN s first + 1) s = R at c1 c2 ⊢
  generalize (cnt R).1 = n at c2
  refine acalls_of code_oper_along (by simp [fn_oper_along]) fun C hC => ?_
  cases first
  · have ex : ((axisN s false : Nat) : Int) = (s.length : Int) - 1 := by simp [axisN]; omega
    rw [ex] at c1 c3
    refine walk2 ?_
    exact fin
  · have ex : ((axisN s true : Nat) : Int) = 0 := by simp [axisN]
    rw [ex] at c1 c3
    refine walk2 ?_
    exact fin

theorem axis26_a (s : List Int) (first : Bool) (h0 : 0 < s.length) (hl : s.length ≤ maxB) : ACalls Try.prog 57 [.sl 1 (intsA .i64 s), .lit (.bool first)] (.lit (.int .i64 (axisN s first : Nat))) := by
  have hB : maxB = 1000000000 := rfl
  have ls := intsA_len .i64 s
  refine acalls_of code_scrimref26_Axis (by simp [fn_scrimref26_Axis]) fun C hC => ?_
  cases first
  · rw [show ((axisN s false : Nat) : Int) = (s.length : Int) - 1 from by simp [axisN]; omega]
    refine walk2 ?_
    exact fin
  · rw [show ((axisN s true : Nat) : Int) = 0 from by simp [axisN]]
    refine walk2 ?_
    exact fin

theorem put26_a (p : List Int) (x : Nat) (n : Int) (hx : x ≤ p.length) (hl : p.length ≤ 1000) : ACalls Try.prog 61 [.sl 1 (intsA .i64 p), .lit (.int .i64 x), .lit (.int .i64 n)] (.sl 1 (intsA .i64 (putP p x n))) := by
  have ls := intsA_len .i64 p
  have k1 := Cut.upto (k := .i64) (s := p) (b := x) (by omega)
  have k2 := Cut.from (k := .i64) (s := p) (a := x) (by omega)
  have e : intsA .i64 (putP p x n) = (intsA .i64 (p.take x) ++ [[.lit (.int .i64 n)]]) ++ intsA .i64 (p.drop x) := by simp [putP, intsA]
  refine acalls_of code_scrimref26_put (by simp [fn_scrimref26_put]) fun C hC => ?_
  rw [e]
  refine walk2 ?_
  exact fin

theorem places_err (s : List Int) (h1 : (cnt s).2 ≠ 0) : ACalls Try.prog 59 [.sl 1 (intsA .i64 s)] (.sl 1 []) := by
  have c1 := rcount_a s
  rw [rcnt_eq] at c1
  generalize (cnt s).2 = e at c1 h1
  generalize (cnt s).1 = n at c1
  refine acalls_of code_scrimref07_Places (by simp [fn_scrimref07_Places]) fun C hC => ?_
  refine walk2 ?_
  exact fin

theorem idx3_lt {N L B i n j : Nat} (hi : i < N) (hn : n < L) (hj : j < B) : (i * L + n) * B + j < N * L * B := by
  have h1 : (i + 1) * L ≤ N * L := Nat.mul_le_mul_right _ hi
  have h2 : (i * L + n + 1) * B ≤ N * L * B := Nat.mul_le_mul_right _ (by rw [Nat.succ_mul] at h1; omega)
  rw [Nat.succ_mul] at h2
  omega
theorem lineAt_len (cs : List Cell) (L B q : Nat) : (lineAt cs L B q).length = L := by simp [lineAt]
theorem lineAt_at (cs : List Cell) (L B i j n : Nat) (hj : j < B) (hn : n < L) {c : Cell} (hc : cs[(i * L + n) * B + j]? = some c) : (lineAt cs L B (i * B + j))[n]? = some c := by
  have e1 : (i * B + j) / B = i := by rw [Nat.add_comm, Nat.add_mul_div_right _ _ (by omega), Nat.div_eq_of_lt hj, Nat.zero_add]
  have e2 : (i * B + j) % B = j := by rw [Nat.add_comm, Nat.add_mul_mod_self_right, Nat.mod_eq_of_lt hj]
  simp only [lineAt, e1, e2, List.getElem?_map, List.getElem?_range hn, Option.map_some, List.getD, hc, Option.getD_some]
theorem linesQ_len (cs : List Cell) (L B M : Nat) : (linesQ cs L B M).length = M := by simp [linesQ]
theorem linesQ_at (cs : List Cell) (L B M q : Nat) (h : q < M) : (linesQ cs L B M)[q]? = some (lineAt cs L B q) := by simp [linesQ, h]
theorem lineAt_mem {cs : List Cell} {L B q : Nat} {P : Cell → Prop} (h : ∀ c ∈ cs, P c) (hd : P cellD) : ∀ c ∈ lineAt cs L B q, P c := fun c hc => by
  simp only [lineAt, List.mem_map] at hc
  obtain ⟨n, _, rfl⟩ := hc
  rw [List.getD_eq_getElem?_getD]
  cases hg : cs[(q / B * L + n) * B + q % B]? with
  | none => exact hd
  | some c => exact h c (List.mem_of_getElem? hg)

/-- the lines, as the walk tells them -/
def linesA (A : Arr) (first : Bool) : List (List Cell) :=
  if A.shape.length = 0 then [A.cells]
  else if (cnt (restP A.shape (axisN A.shape first))).2 ≠ 0 then []
  else linesQ A.cells ((A.shape.getD (axisN A.shape first) 0).toNat) (prodL (A.shape.drop (axisN A.shape first + 1))).toNat (prodL (restP A.shape (axisN A.shape first))).toNat
def restA (A : Arr) (first : Bool) : List Int := if A.shape.length = 0 then [] else restP A.shape (axisN A.shape first)
end Go.Proofs.Ytfnilbkahkbljaa
