/- Numbers of an array: array.Ints, the document's Ints. -/
import Derived.Test.YtfnilbkahkbljaaNumD
import Derived.Test.YtfnilbkahkbljaaCodeB
import Derived.Test.YtfnilbkahkbljaaArrG
namespace Go.Proofs.Ytfnilbkahkbljaa
set_option linter.unusedVariables false
open Go.RowKit

def intOf (c : Cell) : Option Int := if c.kind = 0 then (if (smallN c.n).2 = true then some (smallN c.n).1 else none) else none
def intsF : List Cell → Option (List Int)
  | [] => some []
  | c :: cs => match intOf c, intsF cs with | some z, some l => some (z :: l) | _, _ => none
theorem intsF_at {cs : List Cell} {k : Nat} {c : Cell} (h : cs[k]? = some c) : intsF (cs.drop k) = match intOf c, intsF (cs.drop (k + 1)) with | some z, some l => some (z :: l) | _, _ => none := by
  rw [dropA_cons h, intsF]
theorem intsF_len : ∀ {cs : List Cell} {l : List Int}, intsF cs = some l → l.length = cs.length
  | [], l, h => by simp only [intsF, Option.some.injEq] at h; subst h; rfl
  | c :: cs, l, h => by
    rw [intsF] at h
    split at h
    · rename_i z l' h1 h2
      simp only [Option.some.injEq] at h; subst h
      simp [intsF_len h2]
    · cases h

/-- what Ints answers -/
def intsR (A : Arr) : List Int × Int := if A.shape.length > 1 then ([], 5) else match intsF A.cells with | some l => (l, 0) | none => ([], 3)

theorem shape_gt (A : Arr) : ((intsA .i64 A.shape).length : Int) = A.shape.length := intsA_len .i64 A.shape

theorem arrInts_a (A : Arr) (hA : arrOK A) (hok : okA A) : ACalls Try.prog 81 [.agg (arrV A)] (.tup [.sl 1 (intsA .i64 (intsR A).1), .lit (.int .i64 (intsR A).2)]) := by
  have hB : maxB = 1000000000 := rfl
  have lsh := intsA_len .i64 A.shape
  have lcs := cells_len A
  obtain ⟨a1, a2, a3, a4⟩ := hok.parts
  obtain ⟨b1, b2, b3, b4⟩ := hA.parts
  refine acalls_of code_array_Ints (by simp [fn_array_Ints]) fun C hC => ?_
  unfold intsR
  by_cases h1 : A.shape.length > 1
  · rw [if_pos h1]
    refine walk2 ?_
    exact fin
  · rw [if_neg h1]
    refine walk2 ?_
    refine aw_loopB [1, 18, 19] [0] (fun p : Nat × List Int => [(4, .own 1), (20, .lit (.int .i64 p.1))]) (fun p => [(1, some ⟨true, false, 3, 1, intsA .i64 p.2⟩)]) 2
      (fun p => p.1 ≤ A.cells.length ∧ p.2.length = p.1 ∧ intsF A.cells = (intsF (A.cells.drop p.1)).map (p.2 ++ ·)) (fun p => A.cells.length - p.1) (0, []) ⟨Nat.zero_le _, rfl, by cases h : intsF A.cells <;> simp [h]⟩ ?_
    rintro ⟨k, zs⟩ ⟨hk, hz, hE⟩
    dsimp only [List.cons_append, List.nil_append] at hk hz hE ⊢
    generalize intsF A.cells = G at hE ⊢
    by_cases hlt : k < A.cells.length
    · obtain ⟨c, hc⟩ : ∃ c, A.cells[k]? = some c := ⟨_, List.getElem?_eq_getElem hlt⟩
      have hcm := List.mem_of_getElem? hc
      have hco := okCs_mem.1 a4 c hcm
      have hcp := (cellsOK_mem.1 b4 c hcm).parts
      have hcv : (A.cells.map cellR)[((k : Nat) : Int).toNat]? = some (cellV c) := by rw [Int.toNat_natCast]; exact cell_at hc
      have c1 := ratSmall_a c.n hcp.2.1 hco.parts.2.1
      have hin := intsF_at hc
      have lz := intsA_len .i64 zs
      unfold intOf at hin
      by_cases hkind : c.kind = 0
      · rw [if_pos hkind] at hin
        cases hb : (smallN c.n).2 <;> rw [hb] at c1 hin
        · simp only [Bool.false_eq_true, if_false] at hin
          rw [hin] at hE
          simp only [Option.map_none] at hE
          subst hE
          refine walk2 ?_
          exact fin
        · simp only [if_true] at hin
          generalize (smallN c.n).1 = z at c1 hin
          refine walk2 ?_
          refine ⟨(k + 1, zs ++ [z]), by simp only; omega, ⟨by simp only; omega, by simp only [List.length_append, List.length_cons, List.length_nil]; omega, ?_⟩, wkR hC.m [(1, 4)] (by rw [show intsA .i64 (zs ++ [z]) = intsA .i64 zs ++ [[.lit (.int .i64 z)]] from by simp [intsA]]; rfl)⟩
          rw [hE, hin]
          cases intsF (A.cells.drop (k + 1)) <;> simp
      · rw [if_neg hkind] at hin
        simp only at hin
        rw [hin] at hE
        simp only [Option.map_none] at hE
        subst hE
        generalize (smallN c.n).1 = z at c1
        generalize (smallN c.n).2 = b at c1
        refine walk2 ?_
        exact fin
    · rw [List.drop_eq_nil_of_le (by omega), intsF] at hE
      simp only [Option.map_some, List.append_nil] at hE
      subst hE
      refine walk2 ?_
      exact fin

theorem refInts_a (A : Arr) (hA : arrOK A) (hok : okA A) : ACalls Try.prog 82 [.agg (arrV A)] (.tup [.sl 1 (intsA .i64 (intsR A).1), .lit (.int .i64 (intsR A).2)]) := by
  have hB : maxB = 1000000000 := rfl
  have lsh := intsA_len .i64 A.shape
  have lcs := cells_len A
  obtain ⟨a1, a2, a3, a4⟩ := hok.parts
  obtain ⟨b1, b2, b3, b4⟩ := hA.parts
  refine acalls_of code_scrimref08_Ints (by simp [fn_scrimref08_Ints]) fun C hC => ?_
  unfold intsR
  by_cases h1 : A.shape.length > 1
  · rw [if_pos h1]
    refine walk2 ?_
    exact fin
  · rw [if_neg h1]
    refine walk2 ?_
    refine aw_nil 4 3 1 rfl ?_
    refine aw_loopB [1] [0] (fun p : Nat × List Int => [(4, .own 1), (5, .lit (.int .i64 p.1))]) (fun p => [(1, some ⟨true, false, 3, 1, intsA .i64 p.2⟩)]) 2
      (fun p => p.1 ≤ A.cells.length ∧ p.2.length = p.1 ∧ intsF A.cells = (intsF (A.cells.drop p.1)).map (p.2 ++ ·)) (fun p => A.cells.length - p.1) (0, []) ⟨Nat.zero_le _, rfl, by cases h : intsF A.cells <;> simp [h]⟩ ?_
    rintro ⟨k, zs⟩ ⟨hk, hz, hE⟩
    dsimp only [List.cons_append, List.nil_append] at hk hz hE ⊢
    generalize intsF A.cells = G at hE ⊢
    by_cases hlt : k < A.cells.length
    · obtain ⟨c, hc⟩ : ∃ c, A.cells[k]? = some c := ⟨_, List.getElem?_eq_getElem hlt⟩
      have hcm := List.mem_of_getElem? hc
      have hco := okCs_mem.1 a4 c hcm
      have hcp := (cellsOK_mem.1 b4 c hcm).parts
      have hcv : (A.cells.map cellR)[((k : Nat) : Int).toNat]? = some (cellV c) := by rw [Int.toNat_natCast]; exact cell_at hc
      have c1 := r4Small_a c.n hcp.2.1 hco.parts.2.1
      have hin := intsF_at hc
      have lz := intsA_len .i64 zs
      unfold intOf at hin
      by_cases hkind : c.kind = 0
      · rw [if_pos hkind] at hin
        cases hb : (smallN c.n).2 <;> rw [hb] at c1 hin
        · simp only [Bool.false_eq_true, if_false] at hin
          rw [hin] at hE
          simp only [Option.map_none] at hE
          subst hE
          generalize (smallN c.n).1 = z at c1
          refine walk2 ?_
          exact fin
        · simp only [if_true] at hin
          generalize (smallN c.n).1 = z at c1 hin
          refine walk2 ?_
          refine ⟨(k + 1, zs ++ [z]), by simp only; omega, ⟨by simp only; omega, by simp only [List.length_append, List.length_cons, List.length_nil]; omega, ?_⟩, wkR hC.m [(1, 3)] (by rw [show intsA .i64 (zs ++ [z]) = intsA .i64 zs ++ [[.lit (.int .i64 z)]] from by simp [intsA]]; rfl)⟩
          rw [hE, hin]
          cases intsF (A.cells.drop (k + 1)) <;> simp
      · rw [if_neg hkind] at hin
        simp only at hin
        rw [hin] at hE
        simp only [Option.map_none] at hE
        subst hE
        refine walk2 ?_
        exact fin
    · rw [List.drop_eq_nil_of_le (by omega), intsF] at hE
      simp only [Option.map_some, List.append_nil] at hE
      subst hE
      refine walk2 ?_
      exact fin
end Go.Proofs.Ytfnilbkahkbljaa
