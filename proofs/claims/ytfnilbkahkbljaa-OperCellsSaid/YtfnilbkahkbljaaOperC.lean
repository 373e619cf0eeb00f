/- Parts of an array: what oper.Cells answers. -/
import Derived.Test.YtfnilbkahkbljaaOperL
namespace Go.Proofs.Ytfnilbkahkbljaa
set_option linter.unusedVariables false
open Go.RowKit

section
variable {P : Program} {tt : List (Nat × AV)} {hh : Hp} {nn dd : Nat} {g : Option (Nat × Bool)} {l : List AInst} {acc : List SD} {K : List SD → St → Prop}
theorem r_max {x y : Operand} {k : IntKind} {a b : Int} (v : Int) (hv : (b ≤ a ∧ v = a) ∨ (a < b ∧ v = b)) (h : RG P (⟨⟨some dd, g, .mm true x y⟩, .lit (.int k v), [], [], false⟩ :: acc) l ⟨(dd, .lit (.int k v)) :: tt, hh, nn⟩ K)
    (hg : gOK ⟨tt, hh, nn⟩ g := by first | exact True.intro | rfl) (hx : ev ⟨tt, hh, nn⟩ x = .lit (.int k a) := by rfl) (hy : ev ⟨tt, hh, nn⟩ y = .lit (.int k b) := by rfl) : RG P acc (⟨some dd, g, .mm true x y⟩ :: l) ⟨tt, hh, nn⟩ K :=
  RG.step ((q_mm hg hx hy).cast (by simp only [cond_true]; rcases hv with ⟨h1, rfl⟩ | ⟨h1, rfl⟩; rw [if_neg (by omega)]; rw [if_pos h1])) h
theorem r_min {x y : Operand} {k : IntKind} {a b : Int} (v : Int) (hv : (a ≤ b ∧ v = a) ∨ (b < a ∧ v = b)) (h : RG P (⟨⟨some dd, g, .mm false x y⟩, .lit (.int k v), [], [], false⟩ :: acc) l ⟨(dd, .lit (.int k v)) :: tt, hh, nn⟩ K)
    (hg : gOK ⟨tt, hh, nn⟩ g := by first | exact True.intro | rfl) (hx : ev ⟨tt, hh, nn⟩ x = .lit (.int k a) := by rfl) (hy : ev ⟨tt, hh, nn⟩ y = .lit (.int k b) := by rfl) : RG P acc (⟨some dd, g, .mm false x y⟩ :: l) ⟨tt, hh, nn⟩ K :=
  RG.step ((q_mm hg hx hy).cast (by simp only [cond_false]; rcases hv with ⟨h1, rfl⟩ | ⟨h1, rfl⟩; rw [if_neg (by omega)]; rw [if_pos h1])) h
end

/-- how many axes stand ahead of the parts' -/
def cutN (A : Arr) (k : Int) : Nat := A.shape.length - min k.toNat A.shape.length
def partQ (A : Arr) (k : Int) (Q i : Nat) : Arr := .mk A.s (A.shape.drop (cutN A k)) ((A.cells.drop (i * Q)).take Q)
def partsQ (A : Arr) (k : Int) (P Q : Nat) : List Arr := (List.range P).map (partQ A k Q)
theorem partsQ_len (A : Arr) (k : Int) (P Q : Nat) : (partsQ A k P Q).length = P := by simp [partsQ]
theorem partsQ_at (A : Arr) (k : Int) (P Q i : Nat) (h : i < P) : (partsQ A k P Q)[i]? = some (partQ A k Q i) := by simp [partsQ, h]
theorem cutN_le (A : Arr) (k : Int) : cutN A k ≤ A.shape.length := by unfold cutN; omega

theorem operCells_err (A : Arr) (k : Int) (hl : A.shape.length ≤ maxB) (he : (cnt (A.shape.take (cutN A k))).2 ≠ 0 ∨ (cnt (A.shape.drop (cutN A k))).2 ≠ 0) :
    ACalls Try.prog 29 [.agg (arrV A), .lit (.int .i64 k)] (.tup [.sl 3 [], .sl 1 (intsA .i64 (A.shape.take (cutN A k)))]) := by
  have hB : maxB = 1000000000 := rfl
  have lsh := intsA_len .i64 A.shape
  have hcut := cutN_le A k
  have k1 := Cut.upto (k := .i64) (s := A.shape) (b := cutN A k) hcut
  have k2 := Cut.from (k := .i64) (s := A.shape) (a := cutN A k) hcut
  have c1 := count_a (A.shape.take (cutN A k))
  have c2 := count_a (A.shape.drop (cutN A k))
  have c3 := cloneInt_a (intsA .i64 (A.shape.take (cutN A k))) (by simp [intsA]; omega)
  generalize (cnt (A.shape.take (cutN A k))).1 = n1 at c1
  generalize (cnt (A.shape.take (cutN A k))).2 = e1 at c1 he
  generalize (cnt (A.shape.drop (cutN A k))).1 = n2 at c2
  generalize (cnt (A.shape.drop (cutN A k))).2 = e2 at c2 he
  refine acalls_of code_oper_Cells (by simp [fn_oper_Cells]) fun C hC => ?_
  refine walk2 ?_
  refine aw_reg ?_
  refine rrun2 ?_
  refine r_max (max k 0) ?_ ?_
  · omega
  refine rrun2 ?_
  refine r_min (min (max k 0) A.shape.length) ?_ ?_
  · omega
  refine rrun2 ?_
  refine rg_nil ⟨rfl, ?_⟩
  refine walk2 ?_
  refine aw_slot 6 (.lit (.int .i64 (cutN A k : Nat))) (by show AV.lit (.int .i64 ((A.shape.length : Int) - min (max k 0) A.shape.length)) = _; rw [show (A.shape.length : Int) - min (max k 0) A.shape.length = ((cutN A k : Nat) : Int) from by unfold cutN; omega]) ?_
  by_cases h1 : e1 = 0
  · have h2 : e2 ≠ 0 := by rcases he with h | h; exact absurd h1 h; exact h
    subst h1
    refine walk2 ?_
    exact fin
  · refine walk2 ?_
    exact fin

set_option maxHeartbeats 1000000 in
theorem operCells_ok (A : Arr) (k : Int) (hA : okA A) (h1 : (cnt (A.shape.take (cutN A k))).2 = 0) (h2 : (cnt (A.shape.drop (cutN A k))).2 = 0) (P Q : Nat) (hP : (cnt (A.shape.take (cutN A k))).1 = P) (hQ : (cnt (A.shape.drop (cutN A k))).1 = Q)
    (hPQ : P * Q = A.cells.length) (hcl : A.cells.length ≤ 5000) (hPb : P ≤ 5000) (hQb : Q ≤ 5000) :
    ACalls Try.prog 29 [.agg (arrV A), .lit (.int .i64 k)] (.tup [.sl 3 ((partsQ A k P Q).map arrR), .sl 1 (intsA .i64 (A.shape.take (cutN A k)))]) := by
  have hB : maxB = 1000000000 := rfl
  obtain ⟨a1, a2, a3, a4⟩ := hA.parts
  have lsh := intsA_len .i64 A.shape
  have lcs := cells_len A
  have hcut := cutN_le A k
  have k1 := Cut.upto (k := .i64) (s := A.shape) (b := cutN A k) hcut
  have k2 := Cut.from (k := .i64) (s := A.shape) (a := cutN A k) hcut
  have c1 := count_a (A.shape.take (cutN A k))
  have c2 := count_a (A.shape.drop (cutN A k))
  rw [h1, hP] at c1
  rw [h2, hQ] at c2
  have c3 := cloneInt_a (intsA .i64 (A.shape.take (cutN A k))) (by simp [intsA]; omega)
  have c4 := cloneInt_a (intsA .i64 (A.shape.drop (cutN A k))) (by simp [intsA]; omega)
  have hPQI : (P : Int) * Q = A.cells.length := by exact_mod_cast hPQ
  have hm1 : -9223372036854775808 ≤ (P : Int) * Q ∧ (P : Int) * Q ≤ 9223372036854775807 := by omega
  have hX := partsQ_len A k P Q
  have hXat : ∀ i, i < P → (partsQ A k P Q)[i]? = some (partQ A k Q i) := fun i hi => partsQ_at A k P Q i hi
  generalize partsQ A k P Q = X at hX hXat ⊢
  refine acalls_of code_oper_Cells (by simp [fn_oper_Cells]) fun C hC => ?_
  refine walk2 ?_
  refine aw_reg ?_
  refine rrun2 ?_
  refine r_max (max k 0) ?_ ?_
  · omega
  refine rrun2 ?_
  refine r_min (min (max k 0) A.shape.length) ?_ ?_
  · omega
  refine rrun2 ?_
  refine rg_nil ⟨rfl, ?_⟩
  refine walk2 ?_
  refine aw_slot 6 (.lit (.int .i64 (cutN A k : Nat))) (by show AV.lit (.int .i64 ((A.shape.length : Int) - min (max k 0) A.shape.length)) = _; rw [show (A.shape.length : Int) - min (max k 0) A.shape.length = ((cutN A k : Nat) : Int) from by unfold cutN; omega]) ?_
  refine walk2 ?_
  refine aw_slot 64 (.lit (.int .i64 P)) (by show AV.lit (.int .i64 (((List.replicate ((P : Int).toNat) arrZ).length : Nat) : Int)) = _; rw [List.length_replicate, Int.toNat_natCast]) ?_
  have e0 := rowK_zero arrV arrZ X
  rw [hX] at e0
  refine aw_loopB [2, 7, 8, 11, 13, 64] [0] (fun i : Nat => [(65, .lit (.int .i64 i))]) (fun i => [(1, some ⟨true, false, 26, 3, rowK arrV arrZ X i⟩)]) 2
    (fun i => i ≤ P) (fun i => P - i) 0 (Nat.zero_le _) ?_ (hh := by rw [← e0]; rfl)
  rintro i hi
  dsimp only [List.cons_append, List.nil_append]
  by_cases hil : i < P
  · have hat := hXat i hil
    have hle : (i + 1) * Q ≤ A.cells.length := by rw [← hPQ]; exact Nat.mul_le_mul_right _ hil
    have hsub : (i + 1) * Q - i * Q = Q := by rw [Nat.succ_mul]; omega
    have hle0 : i * Q ≤ (i + 1) * Q := by rw [Nat.succ_mul]; omega
    have eI : (i : Int) * Q = ((i * Q : Nat) : Int) := (Int.natCast_mul i Q).symm
    have eJ : ((i : Int) + 1) * Q = (((i + 1) * Q : Nat) : Int) := by rw [Int.natCast_mul, Int.natCast_add]; rfl
    have hm2 : -9223372036854775808 ≤ (i : Int) * Q ∧ (i : Int) * Q ≤ 9223372036854775807 := by
      rw [eI]; generalize i * Q = q at hle0; generalize (i + 1) * Q = q2 at hle hle0; omega
    have hm3 : -9223372036854775808 ≤ ((i : Int) + 1) * Q ∧ ((i : Int) + 1) * Q ≤ 9223372036854775807 := by
      rw [eJ]; generalize (i + 1) * Q = q2 at hle; omega
    have ec : ((A.cells.map cellR).drop (i * Q)).take ((i + 1) * Q - i * Q) = ((A.cells.drop (i * Q)).take Q).map cellR := by
      rw [hsub, List.map_take, List.map_drop]
    have c5 := cloneCell_a (((A.cells.map cellR).drop (i * Q)).take ((i + 1) * Q - i * Q)) (by simp; omega)
    have hset : (rowK arrV arrZ X i).set i [labV A.s, .sl 1 (intsA .i64 (A.shape.drop (cutN A k))), .sl 7 (((A.cells.map cellR).drop (i * Q)).take ((i + 1) * Q - i * Q))] = rowK arrV arrZ X (i + 1) := by
      rw [ec]; exact rowK_set arrV arrZ X i (partQ A k Q i) hat
    have hget := rowK_get arrV arrZ X i (by omega)
    have hrl := rowK_len arrV arrZ X i (by omega)
    refine walk2 ?_
    refine aw_reg ?_
    refine rrun2 ?_
    refine r_slice (i * Q) ((i + 1) * Q) hle0 ?_ ?_ (hl := ?_) (hh' := ?_)
    · rw [List.length_map]; exact hle
    · refine rrun2 ?_
      refine rg_nil ⟨rfl, ?_⟩
      refine walk2 ?_
      exact ⟨i + 1, by omega, by omega, wkR hC.m [] (by rw [← hset]; rfl)⟩
    · exact ⟨.i64, by show AV.lit (.int .i64 ((i : Int) * Q)) = _; rw [eI]⟩
    · exact ⟨.i64, by show AV.lit (.int .i64 (((i : Int) + 1) * Q)) = _; rw [eJ]⟩
  · rw [rowK_end arrV arrZ X i (by omega), show X.map arrV = X.map arrR from by simp [arrR_eq]]
    refine walk2 ?_
    exact fin
end Go.Proofs.Ytfnilbkahkbljaa
