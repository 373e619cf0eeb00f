/- OperInts: the numbers of an array, its only number, and its truth. -/
import Derived.Test.YtfnilbkahkbljaaOperH
import Derived.Test.YtfnilbkahkbljaaNumD
namespace Go.Proofs.Ytfnilbkahkbljaa
set_option linter.unusedVariables false
open Go.RowKit

def intOf (c : Cell) : Option Int := if c.kind = 0 then (if (smallN c.n).2 = true then some (smallN c.n).1 else none) else none
def intsF : List Cell → Option (List Int)
  | [] => some []
  | c :: cs => match intOf c, intsF cs with | some z, some l => some (z :: l) | _, _ => none
theorem intsF_at {cs : List Cell} {k : Nat} {c : Cell} (h : cs[k]? = some c) : intsF (cs.drop k) = match intOf c, intsF (cs.drop (k + 1)) with | some z, some l => some (z :: l) | _, _ => none := by
  rw [dropA_cons h, intsF]
theorem intsF_len : ∀ {cs : List Cell} {l : List Int}, intsF cs = some l → l.length = cs.length
  | [], l, h => by simp only [intsF, Option.some.injEq] at h; subst h; rfl
  | c :: cs, l, h => by
    rw [intsF] at h
    split at h
    · rename_i z l' h1 h2
      simp only [Option.some.injEq] at h; subst h
      simp [intsF_len h2]
    · cases h

/-- what Ints answers -/
def intsR (A : Arr) : List Int × Int := if A.shape.length > 1 then ([], 5) else match intsF A.cells with | some l => (l, 0) | none => ([], 3)

theorem shape_gt (A : Arr) : ((intsA .i64 A.shape).length : Int) = A.shape.length := intsA_len .i64 A.shape

theorem arrInts_a (A : Arr) (hA : arrOK A) (hok : okA A) : ACalls Try.prog 81 [.agg (arrV A)] (.tup [.sl 1 (intsA .i64 (intsR A).1), .lit (.int .i64 (intsR A).2)]) := by
  have hB : maxB = 1000000000 := rfl
  have lsh := intsA_len .i64 A.shape
  have lcs := cells_len A
  obtain ⟨a1, a2, a3, a4⟩ := hok.parts
  obtain ⟨b1, b2, b3, b4⟩ := hA.parts
  refine acalls_of code_array_Ints (by simp [fn_array_Ints]) fun C hC => ?_
  unfold intsR
  by_cases h1 : A.shape.length > 1
  · rw [if_pos h1]
    refine walk2 ?_
    exact fin
  · rw [if_neg h1]
    refine walk2 ?_
    refine aw_loopB [1, 18, 19] [0] (fun p : Nat × List Int => [(4, .own 1), (20, .lit (.int .i64 p.1))]) (fun p => [(1, some ⟨true, false, 3, 1, intsA .i64 p.2⟩)]) 2
      (fun p => p.1 ≤ A.cells.length ∧ p.2.length = p.1 ∧ intsF A.cells = (intsF (A.cells.drop p.1)).map (p.2 ++ ·)) (fun p => A.cells.length - p.1) (0, []) ⟨Nat.zero_le _, rfl, by cases h : intsF A.cells <;> simp [h]⟩ ?_
    rintro ⟨k, zs⟩ ⟨hk, hz, hE⟩
    dsimp only [List.cons_append, List.nil_append] at hk hz hE ⊢
    generalize intsF A.cells = G at hE ⊢
    by_cases hlt : k < A.cells.length
    · obtain ⟨c, hc⟩ : ∃ c, A.cells[k]? = some c := ⟨_, List.getElem?_eq_getElem hlt⟩
      have hcm := List.mem_of_getElem? hc
      have hco := okCs_mem.1 a4 c hcm
      have hcp := (cellsOK_mem.1 b4 c hcm).parts
      have hcv : (A.cells.map cellR)[((k : Nat) : Int).toNat]? = some (cellV c) := by rw [Int.toNat_natCast]; exact cell_at hc
      have c1 := ratSmall_a c.n hcp.2.1 hco.parts.2.1
      have hin := intsF_at hc
      have lz := intsA_len .i64 zs
      unfold intOf at hin
      by_cases hkind : c.kind = 0
      · rw [if_pos hkind] at hin
        cases hb : (smallN c.n).2 <;> rw [hb] at c1 hin
        · simp only [Bool.false_eq_true, if_false] at hin
          rw [hin] at hE
          simp only [Option.map_none] at hE
          subst hE
          refine walk2 ?_
          exact fin
        · simp only [if_true] at hin
          generalize (smallN c.n).1 = z at c1 hin
          refine walk2 ?_
          refine ⟨(k + 1, zs ++ [z]), by simp only; omega, ⟨by simp only; omega, by simp only [List.length_append, List.length_cons, List.length_nil]; omega, ?_⟩, wkR hC.m [(1, 4)] (by rw [show intsA .i64 (zs ++ [z]) = intsA .i64 zs ++ [[.lit (.int .i64 z)]] from by simp [intsA]]; rfl)⟩
          rw [hE, hin]
          cases intsF (A.cells.drop (k + 1)) <;> simp
      · rw [if_neg hkind] at hin
        simp only at hin
        rw [hin] at hE
        simp only [Option.map_none] at hE
        subst hE
        generalize (smallN c.n).1 = z at c1
        generalize (smallN c.n).2 = b at c1
        refine walk2 ?_
        exact fin
    · rw [List.drop_eq_nil_of_le (by omega), intsF] at hE
      simp only [Option.map_some, List.append_nil] at hE
      subst hE
      refine walk2 ?_
      exact fin

theorem refInts_a (A : Arr) (hA : arrOK A) (hok : okA A) : ACalls Try.prog 82 [.agg (arrV A)] (.tup [.sl 1 (intsA .i64 (intsR A).1), .lit (.int .i64 (intsR A).2)]) := by
  have hB : maxB = 1000000000 := rfl
  have lsh := intsA_len .i64 A.shape
  have lcs := cells_len A
  obtain ⟨a1, a2, a3, a4⟩ := hok.parts
  obtain ⟨b1, b2, b3, b4⟩ := hA.parts
  refine acalls_of code_scrimref08_Ints (by simp [fn_scrimref08_Ints]) fun C hC => ?_
  unfold intsR
  by_cases h1 : A.shape.length > 1
  · rw [if_pos h1]
    refine walk2 ?_
    exact fin
  · rw [if_neg h1]
    refine walk2 ?_
    refine aw_nil 4 3 1 rfl ?_
    refine aw_loopB [1] [0] (fun p : Nat × List Int => [(4, .own 1), (5, .lit (.int .i64 p.1))]) (fun p => [(1, some ⟨true, false, 3, 1, intsA .i64 p.2⟩)]) 2
      (fun p => p.1 ≤ A.cells.length ∧ p.2.length = p.1 ∧ intsF A.cells = (intsF (A.cells.drop p.1)).map (p.2 ++ ·)) (fun p => A.cells.length - p.1) (0, []) ⟨Nat.zero_le _, rfl, by cases h : intsF A.cells <;> simp [h]⟩ ?_
    rintro ⟨k, zs⟩ ⟨hk, hz, hE⟩
    dsimp only [List.cons_append, List.nil_append] at hk hz hE ⊢
    generalize intsF A.cells = G at hE ⊢
    by_cases hlt : k < A.cells.length
    · obtain ⟨c, hc⟩ : ∃ c, A.cells[k]? = some c := ⟨_, List.getElem?_eq_getElem hlt⟩
      have hcm := List.mem_of_getElem? hc
      have hco := okCs_mem.1 a4 c hcm
      have hcp := (cellsOK_mem.1 b4 c hcm).parts
      have hcv : (A.cells.map cellR)[((k : Nat) : Int).toNat]? = some (cellV c) := by rw [Int.toNat_natCast]; exact cell_at hc
      have c1 := r4Small_a c.n hcp.2.1 hco.parts.2.1
      have hin := intsF_at hc
      have lz := intsA_len .i64 zs
      unfold intOf at hin
      by_cases hkind : c.kind = 0
      · rw [if_pos hkind] at hin
        cases hb : (smallN c.n).2 <;> rw [hb] at c1 hin
        · simp only [Bool.false_eq_true, if_false] at hin
          rw [hin] at hE
          simp only [Option.map_none] at hE
          subst hE
          generalize (smallN c.n).1 = z at c1
          refine walk2 ?_
          exact fin
        · simp only [if_true] at hin
          generalize (smallN c.n).1 = z at c1 hin
          refine walk2 ?_
          refine ⟨(k + 1, zs ++ [z]), by simp only; omega, ⟨by simp only; omega, by simp only [List.length_append, List.length_cons, List.length_nil]; omega, ?_⟩, wkR hC.m [(1, 3)] (by rw [show intsA .i64 (zs ++ [z]) = intsA .i64 zs ++ [[.lit (.int .i64 z)]] from by simp [intsA]]; rfl)⟩
          rw [hE, hin]
          cases intsF (A.cells.drop (k + 1)) <;> simp
      · rw [if_neg hkind] at hin
        simp only at hin
        rw [hin] at hE
        simp only [Option.map_none] at hE
        subst hE
        refine walk2 ?_
        exact fin
    · rw [List.drop_eq_nil_of_le (by omega), intsF] at hE
      simp only [Option.map_some, List.append_nil] at hE
      subst hE
      refine walk2 ?_
      exact fin

def intR (A : Arr) : Int × Int := if (intsR A).2 ≠ 0 then (0, (intsR A).2) else match (intsR A).1 with | [z] => (z, 0) | _ => (0, 4)
def truthR (A : Arr) : Bool × Int := if (intR A).2 ≠ 0 then (false, (intR A).2) else if (intR A).1 < 0 ∨ (intR A).1 > 1 then (false, 3) else (decide ((intR A).1 = 1), 0)

theorem listK3 (l : List Int) : l = [] ∨ (∃ a, l = [a]) ∨ (∃ a b r, l = a :: b :: r) := by
  rcases l with _ | ⟨a, _ | ⟨b, r⟩⟩
  · exact .inl rfl
  · exact .inr (.inl ⟨a, rfl⟩)
  · exact .inr (.inr ⟨a, b, r, rfl⟩)

theorem operInt_a (A : Arr) (hA : arrOK A) (hok : okA A) : ACalls Try.prog 33 [.agg (arrV A)] (.tup [.lit (.int .i64 (intR A).1), .lit (.int .i64 (intR A).2)]) := by
  have c1 := arrInts_a A hA hok
  unfold intR
  generalize (intsR A).1 = l at c1 ⊢
  generalize (intsR A).2 = e at c1 ⊢
  refine acalls_of code_oper_Int (by simp [fn_oper_Int]) fun C hC => ?_
  by_cases h : e = 0
  · subst h
    simp only [ne_eq, not_true_eq_false, if_false]
    rcases listK3 l with hb | ⟨a, hb⟩ | ⟨a, b, r, hb⟩
    · have hl : ((intsA .i64 l).length : Int) = 0 := by rw [hb]; rfl
      rw [show (match l with | [z] => (z, (0 : Int)) | _ => (0, 4)) = (0, 4) from by rw [hb]]
      refine walk2 ?_
      exact fin
    · have hx : (intsA .i64 l)[(0 : Int).toNat]? = some [.lit (.int .i64 a)] := by rw [hb]; rfl
      have hl : ((intsA .i64 l).length : Int) = 1 := by rw [hb]; rfl
      rw [show (match l with | [z] => (z, (0 : Int)) | _ => (0, 4)) = (a, 0) from by rw [hb]]
      refine walk2 ?_
      exact fin
    · have hl : ((intsA .i64 l).length : Int) = r.length + 2 := by rw [hb]; simp [intsA]; omega
      rw [show (match l with | [z] => (z, (0 : Int)) | _ => (0, 4)) = (0, 4) from by rw [hb]]
      refine walk2 ?_
      exact fin
  · rw [if_pos h]
    refine walk2 ?_
    exact fin

theorem refInt_a (A : Arr) (hA : arrOK A) (hok : okA A) : ACalls Try.prog 34 [.agg (arrV A)] (.tup [.lit (.int .i64 (intR A).1), .lit (.int .i64 (intR A).2)]) := by
  have c1 := refInts_a A hA hok
  unfold intR
  generalize (intsR A).1 = l at c1 ⊢
  generalize (intsR A).2 = e at c1 ⊢
  refine acalls_of code_scrimref26_Int (by simp [fn_scrimref26_Int]) fun C hC => ?_
  by_cases h : e = 0
  · subst h
    simp only [ne_eq, not_true_eq_false, if_false]
    rcases listK3 l with hb | ⟨a, hb⟩ | ⟨a, b, r, hb⟩
    · have hl : ((intsA .i64 l).length : Int) = 0 := by rw [hb]; rfl
      rw [show (match l with | [z] => (z, (0 : Int)) | _ => (0, 4)) = (0, 4) from by rw [hb]]
      refine walk2 ?_
      exact fin
    · have hx : (intsA .i64 l)[(0 : Int).toNat]? = some [.lit (.int .i64 a)] := by rw [hb]; rfl
      have hl : ((intsA .i64 l).length : Int) = 1 := by rw [hb]; rfl
      rw [show (match l with | [z] => (z, (0 : Int)) | _ => (0, 4)) = (a, 0) from by rw [hb]]
      refine walk2 ?_
      exact fin
    · have hl : ((intsA .i64 l).length : Int) = r.length + 2 := by rw [hb]; simp [intsA]; omega
      rw [show (match l with | [z] => (z, (0 : Int)) | _ => (0, 4)) = (0, 4) from by rw [hb]]
      refine walk2 ?_
      exact fin
  · rw [if_pos h]
    refine walk2 ?_
    exact fin

theorem operTruth_a (A : Arr) (hA : arrOK A) (hok : okA A) : ACalls Try.prog 35 [.agg (arrV A)] (.tup [.lit (.bool (truthR A).1), .lit (.int .i64 (truthR A).2)]) := by
  have c1 := operInt_a A hA hok
  unfold truthR
  generalize (intR A).1 = z at c1 ⊢
  generalize (intR A).2 = e at c1 ⊢
  refine acalls_of code_oper_Truth (by simp [fn_oper_Truth]) fun C hC => ?_
  by_cases h : e = 0
  · subst h
    simp only [ne_eq, not_true_eq_false, if_false]
    by_cases h0 : z = 0
    · subst h0
      rw [if_neg (by omega), show decide ((0 : Int) = 1) = false from rfl]
      refine walk2 ?_
      exact fin
    by_cases h1 : z = 1
    · subst h1
      rw [if_neg (by omega), show decide ((1 : Int) = 1) = true from rfl]
      refine walk2 ?_
      exact fin
    rw [if_pos (by omega)]
    refine walk2 ?_
    exact fin
  · rw [if_pos h]
    refine walk2 ?_
    exact fin

theorem refTruth_a (A : Arr) (hA : arrOK A) (hok : okA A) : ACalls Try.prog 36 [.agg (arrV A)] (.tup [.lit (.bool (truthR A).1), .lit (.int .i64 (truthR A).2)]) := by
  have c1 := refInt_a A hA hok
  unfold truthR
  generalize (intR A).1 = z at c1 ⊢
  generalize (intR A).2 = e at c1 ⊢
  refine acalls_of code_scrimref26_Truth (by simp [fn_scrimref26_Truth]) fun C hC => ?_
  by_cases h : e = 0
  · subst h
    simp only [ne_eq, not_true_eq_false, if_false]
    by_cases h0 : z = 0
    · subst h0
      rw [if_neg (by omega), show decide ((0 : Int) = 1) = false from rfl]
      refine walk2 ?_
      exact fin
    by_cases h1 : z = 1
    · subst h1
      rw [if_neg (by omega), show decide ((1 : Int) = 1) = true from rfl]
      refine walk2 ?_
      exact fin
    rw [if_pos (by omega)]
    by_cases h2 : z < 0
    · refine walk2 ?_
      exact fin
    · refine walk2 ?_
      exact fin
  · rw [if_pos h]
    refine walk2 ?_
    exact fin

theorem operIntsLaw_a (A : Arr) (hA : arrOK A) : ACalls Try.prog 7 [.agg (arrV A)] (.lit (.bool true)) := by
  have c0 := good_a A hA
  have c1 := awake26_a
  cases hg : goodA A <;> rw [hg] at c0
  · refine acalls_of code_scrimlaw26_OperInts (by simp [fn_scrimlaw26_OperInts]) fun C hC => ?_
    refine walk2 ?_
    exact fin
  · have hok := few_ok hA (good_few hg)
    have c2 := operInt_a A hA hok
    have c3 := refInt_a A hA hok
    have c4 := operTruth_a A hA hok
    have c5 := refTruth_a A hA hok
    generalize (intR A).1 = n at c2 c3
    generalize (intR A).2 = e at c2 c3
    generalize (truthR A).2 = h at c4 c5
    refine acalls_of code_scrimlaw26_OperInts (by simp [fn_scrimlaw26_OperInts]) fun C hC => ?_
    cases hb : (truthR A).1 <;> rw [hb] at c4 c5
    · refine walk2 ?_
      exact fin
    · refine walk2 ?_
      exact fin
end Go.Proofs.Ytfnilbkahkbljaa
