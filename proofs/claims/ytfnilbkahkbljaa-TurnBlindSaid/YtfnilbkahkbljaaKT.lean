/- Numbers of an array: array.Ints, the document's Ints. -/
import Derived.Test.YtfnilbkahkbljaaNumD
import Derived.Test.YtfnilbkahkbljaaCodeB
import Derived.Test.YtfnilbkahkbljaaArrG
import Derived.Test.YtfnilbkahkbljaaCodeJ
import Derived.Test.YtfnilbkahkbljaaCodeD
import Derived.Test.YtfnilbkahkbljaaShB
import Derived.Test.YtfnilbkahkbljaaOperQ
import Derived.Test.YtfnilbkahkbljaaCloneP
import Derived.Test.YtfnilbkahkbljaaAbsZ
import Derived.Test.YtfnilbkahkbljaaKJ
namespace Go.Proofs.Ytfnilbkahkbljaa
set_option linter.unusedVariables false
open Go.RowKit

def intOf (c : Cell) : Option Int := if c.kind = 0 then (if (smallN c.n).2 = true then some (smallN c.n).1 else none) else none
def intsF : List Cell → Option (List Int)
  | [] => some []
  | c :: cs => match intOf c, intsF cs with | some z, some l => some (z :: l) | _, _ => none
theorem intsF_at {cs : List Cell} {k : Nat} {c : Cell} (h : cs[k]? = some c) : intsF (cs.drop k) = match intOf c, intsF (cs.drop (k + 1)) with | some z, some l => some (z :: l) | _, _ => none := by
  rw [dropA_cons h, intsF]
theorem intsF_len : ∀ {cs : List Cell} {l : List Int}, intsF cs = some l → l.length = cs.length
  | [], l, h => by simp only [intsF, Option.some.injEq] at h; subst h; rfl
  | c :: cs, l, h => by
    rw [intsF] at h
    split at h
    · rename_i z l' h1 h2
      simp only [Option.some.injEq] at h; subst h
      simp [intsF_len h2]
    · cases h

/-- what Ints answers -/
def intsR (A : Arr) : List Int × Int := if A.shape.length > 1 then ([], 5) else match intsF A.cells with | some l => (l, 0) | none => ([], 3)

theorem arrInts_a (A : Arr) (hA : arrOK A) (hok : okA A) : ACalls Try.prog 81 [.agg (arrV A)] (.tup [.sl 1 (intsA .i64 (intsR A).1), .lit (.int .i64 (intsR A).2)]) := by
  have hB : maxB = 1000000000 := rfl
  have lsh := intsA_len .i64 A.shape
  have lcs := cells_len A
  obtain ⟨a1, a2, a3, a4⟩ := hok.parts
  obtain ⟨b1, b2, b3, b4⟩ := hA.parts
  refine acalls_of code_array_Ints (by simp [fn_array_Ints]) fun C hC => ?_
  unfold intsR
  by_cases h1 : A.shape.length > 1
  · rw [if_pos h1]
    refine walk2 ?_
    exact fin
  · rw [if_neg h1]
    refine walk2 ?_
    refine aw_loopB [1, 18, 19] [0] (fun p : Nat × List Int => [(4, .own 1), (20, .lit (.int .i64 p.1))]) (fun p => [(1, some ⟨true, false, 3, 1, intsA .i64 p.2⟩)]) 2
      (fun p => p.1 ≤ A.cells.length ∧ p.2.length = p.1 ∧ intsF A.cells = (intsF (A.cells.drop p.1)).map (p.2 ++ ·)) (fun p => A.cells.length - p.1) (0, []) ⟨Nat.zero_le _, rfl, by cases h : intsF A.cells <;> simp [h]⟩ ?_
    rintro ⟨k, zs⟩ ⟨hk, hz, hE⟩
    dsimp only [List.cons_append, List.nil_append] at hk hz hE ⊢
    generalize intsF A.cells = G at hE ⊢
    by_cases hlt : k < A.cells.length
    · obtain ⟨c, hc⟩ : ∃ c, A.cells[k]? = some c := ⟨_, List.getElem?_eq_getElem hlt⟩
      have hcm := List.mem_of_getElem? hc
      have hco := okCs_mem.1 a4 c hcm
      have hcp := (cellsOK_mem.1 b4 c hcm).parts
      have hcv : (A.cells.map cellR)[((k : Nat) : Int).toNat]? = some (cellV c) := by rw [Int.toNat_natCast]; exact cell_at hc
      have c1 := ratSmall_a c.n hcp.2.1 hco.parts.2.1
      have hin := intsF_at hc
      have lz := intsA_len .i64 zs
      unfold intOf at hin
      by_cases hkind : c.kind = 0
      · rw [if_pos hkind] at hin
        cases hb : (smallN c.n).2 <;> rw [hb] at c1 hin
        · simp only [Bool.false_eq_true, if_false] at hin
          rw [hin] at hE
          simp only [Option.map_none] at hE
          subst hE
          refine walk2 ?_
          exact fin
        · simp only [if_true] at hin
          generalize (smallN c.n).1 = z at c1 hin
          refine walk2 ?_
          refine ⟨(k + 1, zs ++ [z]), by simp only; omega, ⟨by simp only; omega, by simp only [List.length_append, List.length_cons, List.length_nil]; omega, ?_⟩, wkR hC.m [(1, 4)] (by rw [show intsA .i64 (zs ++ [z]) = intsA .i64 zs ++ [[.lit (.int .i64 z)]] from by simp [intsA]]; rfl)⟩
          rw [hE, hin]
          cases intsF (A.cells.drop (k + 1)) <;> simp
      · rw [if_neg hkind] at hin
        simp only at hin
        rw [hin] at hE
        simp only [Option.map_none] at hE
        subst hE
        generalize (smallN c.n).1 = z at c1
        generalize (smallN c.n).2 = b at c1
        refine walk2 ?_
        exact fin
    · rw [List.drop_eq_nil_of_le (by omega), intsF] at hE
      simp only [Option.map_some, List.append_nil] at hE
      subst hE
      refine walk2 ?_
      exact fin

end Go.Proofs.Ytfnilbkahkbljaa
namespace Go.Proofs.Ytfnilbkahkbljaa
set_option linter.unusedVariables false
open Go.RowKit

section
variable {P : Program} {tt : List (Nat × AV)} {hh : Hp} {nn dd : Nat} {g : Option (Nat × Bool)} {l : List AInst} {acc : List SD} {K : List SD → St → Prop}
end

/-- the cells of an array at the places that a function makes of a shape's places -/
def movedL (A : Arr) (s : List Int) (g : List Int → List Int) : List Cell := (List.range A.cells.length).map fun i : Nat => A.cells.getD (idx A.shape (g (digR s (i : Int)).2)).1.toNat cellD
theorem movedL_len (A : Arr) (s : List Int) (g : List Int → List Int) : (movedL A s g).length = A.cells.length := by simp [movedL]
theorem movedL_at (A : Arr) (s : List Int) (g : List Int → List Int) {i : Nat} (h : i < A.cells.length) : (movedL A s g)[i]? = some (A.cells.getD (idx A.shape (g (digR s (i : Int)).2)).1.toNat cellD) := by
  unfold movedL; rw [List.getElem?_map, List.getElem?_range h]; rfl

set_option maxHeartbeats 1000000 in
theorem moved0_a (A : Arr) (hA : okA A) (s : List Int) (f : FuncId) (g : List Int → List Int) (h1 : (cnt s).2 = 0) (h2 : (cnt s).1 = A.cells.length) (hcl : A.cells.length ≤ 2048)
    (hf : ∀ i : Nat, i < A.cells.length → AMut Try.prog f [.own 0] [(0, some ⟨true, false, 3, 1, intsA .i64 (digR s (i : Int)).2⟩)] 1 (.tup []) [(0, some ⟨true, false, 3, 1, intsA .i64 (g (digR s (i : Int)).2)⟩)] 1)
    (hg : ∀ i : Nat, i < A.cells.length → ∃ k : Nat, k < A.cells.length ∧ idx A.shape (g (digR s (i : Int)).2) = ((k : Int), true) ∧ (g (digR s (i : Int)).2).length ≤ 6) :
    ACalls Try.prog 92 [.agg (arrV A), .sl 1 (intsA .i64 s), .fn f [] []] (.agg (arrV (.mk A.s s (movedL A s g)))) := by
  have hB : maxB = 1000000000 := rfl
  have lcs := cells_len A
  have l6 := cnt_len h1
  have ls := intsA_len .i64 s
  obtain ⟨a1, a2, a3, a4⟩ := hA.parts
  have c0 := cloneInt_a (intsA .i64 s) (by omega)
  have hml := movedL_len A s g
  have hat := fun i (h : i < A.cells.length) => movedL_at A s g h
  generalize movedL A s g = X at hml hat ⊢
  refine acalls_of code_turn_moved (by simp [fn_turn_moved]) fun C hC => ?_
  refine walk2 ?_
  refine aw_loopB [1, 2, 3, 6, 19] [0, 1] (fun i : Nat => [(7, .own 2), (20, .lit (.int .i64 i))]) (fun i => [(2, some ⟨true, false, 76, 7, (X.take i).map cellR⟩)]) 3
    (fun i => i ≤ A.cells.length) (fun i => A.cells.length - i) 0 (Nat.zero_le _) ?_
  rintro i hi
  dsimp only [List.cons_append, List.nil_append]
  by_cases hil : i < A.cells.length
  · obtain ⟨k, hk, hidx, hgl⟩ := hg i hil
    have c1 := shAt_m s i h1 (by omega) (by omega)
    have c2 := hf i hil
    have c3 := shIndex_a A.shape (g (digR s (i : Int)).2) (by omega) a2
    have hx := hat i hil
    rw [hidx] at hx c3
    simp only [Int.toNat_natCast] at hx c3
    obtain ⟨c, hc⟩ : ∃ c, A.cells[k]? = some c := ⟨_, List.getElem?_eq_getElem hk⟩
    rw [List.getD_eq_getElem?_getD, hc, Option.getD_some] at hx
    have hck : (A.cells.map cellR)[((k : Nat) : Int).toNat]? = some (cellV c) := cell_at hc
    have hms : (X.take i).map cellR ++ [cellV c] = (X.take (i + 1)).map cellR := by rw [takeA_snoc hx]; simp [cellR_eq]
    have hlm : ((X.take i).map cellR).length = i := by simp; omega
    generalize g (digR s (i : Int)).2 = d' at c2 c3
    generalize (digR s (i : Int)).2 = d at c1 c2
    clear hat hf hg hx hidx
    refine walk2 ?_
    refine aw_reg (rrun2 ?_)
    refine r_callN [] c1 ?_
    refine rrun2 ?_
    refine rg_nil ⟨rfl, ?_⟩
    refine walk2 ?_
    refine aw_reg (rrun2 ?_)
    refine r_callM [(3, 0)] c2 ?_
    refine rrun2 ?_
    refine rg_nil ⟨rfl, ?_⟩
    refine walk2 ?_
    exact ⟨i + 1, by omega, by omega, wkR hC.m [(2, 5)] (by rw [← hms]; rfl)⟩
  · rw [show X.take i = X from List.take_of_length_le (by omega)]
    refine walk2 ?_
    exact fin

set_option maxHeartbeats 1000000 in
theorem moved1_a (A : Arr) (hA : okA A) (s : List Int) (f : FuncId) (v1 : AV) (g : List Int → List Int) (h1 : (cnt s).2 = 0) (h2 : (cnt s).1 = A.cells.length) (hcl : A.cells.length ≤ 2048)
    (hf : ∀ i : Nat, i < A.cells.length → AMut Try.prog f [.own 0, .ep 1 [[v1]] 0 0] [(0, some ⟨true, false, 3, 1, intsA .i64 (digR s (i : Int)).2⟩)] 1 (.tup []) [(0, some ⟨true, false, 3, 1, intsA .i64 (g (digR s (i : Int)).2)⟩)] 1)
    (hg : ∀ i : Nat, i < A.cells.length → ∃ k : Nat, k < A.cells.length ∧ idx A.shape (g (digR s (i : Int)).2) = ((k : Int), true) ∧ (g (digR s (i : Int)).2).length ≤ 6) :
    ACalls Try.prog 92 [.agg (arrV A), .sl 1 (intsA .i64 s), .fn f [] [.ep 1 [[v1]] 0 0]] (.agg (arrV (.mk A.s s (movedL A s g)))) := by
  have hB : maxB = 1000000000 := rfl
  have lcs := cells_len A
  have l6 := cnt_len h1
  have ls := intsA_len .i64 s
  obtain ⟨a1, a2, a3, a4⟩ := hA.parts
  have c0 := cloneInt_a (intsA .i64 s) (by omega)
  have hml := movedL_len A s g
  have hat := fun i (h : i < A.cells.length) => movedL_at A s g h
  generalize movedL A s g = X at hml hat ⊢
  refine acalls_of code_turn_moved (by simp [fn_turn_moved]) fun C hC => ?_
  refine walk2 ?_
  refine aw_loopB [1, 2, 3, 6, 19] [0, 1] (fun i : Nat => [(7, .own 2), (20, .lit (.int .i64 i))]) (fun i => [(2, some ⟨true, false, 76, 7, (X.take i).map cellR⟩)]) 3
    (fun i => i ≤ A.cells.length) (fun i => A.cells.length - i) 0 (Nat.zero_le _) ?_
  rintro i hi
  dsimp only [List.cons_append, List.nil_append]
  by_cases hil : i < A.cells.length
  · obtain ⟨k, hk, hidx, hgl⟩ := hg i hil
    have c1 := shAt_m s i h1 (by omega) (by omega)
    have c2 := hf i hil
    have c3 := shIndex_a A.shape (g (digR s (i : Int)).2) (by omega) a2
    have hx := hat i hil
    rw [hidx] at hx c3
    simp only [Int.toNat_natCast] at hx c3
    obtain ⟨c, hc⟩ : ∃ c, A.cells[k]? = some c := ⟨_, List.getElem?_eq_getElem hk⟩
    rw [List.getD_eq_getElem?_getD, hc, Option.getD_some] at hx
    have hck : (A.cells.map cellR)[((k : Nat) : Int).toNat]? = some (cellV c) := cell_at hc
    have hms : (X.take i).map cellR ++ [cellV c] = (X.take (i + 1)).map cellR := by rw [takeA_snoc hx]; simp [cellR_eq]
    have hlm : ((X.take i).map cellR).length = i := by simp; omega
    generalize g (digR s (i : Int)).2 = d' at c2 c3
    generalize (digR s (i : Int)).2 = d at c1 c2
    clear hat hf hg hx hidx
    refine walk2 ?_
    refine aw_reg (rrun2 ?_)
    refine r_callN [] c1 ?_
    refine rrun2 ?_
    refine rg_nil ⟨rfl, ?_⟩
    refine walk2 ?_
    refine aw_reg (rrun2 ?_)
    refine r_callM [(3, 0)] c2 ?_
    refine rrun2 ?_
    refine rg_nil ⟨rfl, ?_⟩
    refine walk2 ?_
    exact ⟨i + 1, by omega, by omega, wkR hC.m [(2, 5)] (by rw [← hms]; rfl)⟩
  · rw [show X.take i = X from List.take_of_length_le (by omega)]
    refine walk2 ?_
    exact fin

set_option maxHeartbeats 1000000 in
theorem moved2_a (A : Arr) (hA : okA A) (s : List Int) (f : FuncId) (v1 v2 : AV) (g : List Int → List Int) (h1 : (cnt s).2 = 0) (h2 : (cnt s).1 = A.cells.length) (hcl : A.cells.length ≤ 2048)
    (hf : ∀ i : Nat, i < A.cells.length → AMut Try.prog f [.own 0, .ep 1 [[v1]] 0 0, .ep 1 [[v2]] 0 0] [(0, some ⟨true, false, 3, 1, intsA .i64 (digR s (i : Int)).2⟩)] 1 (.tup []) [(0, some ⟨true, false, 3, 1, intsA .i64 (g (digR s (i : Int)).2)⟩)] 1)
    (hg : ∀ i : Nat, i < A.cells.length → ∃ k : Nat, k < A.cells.length ∧ idx A.shape (g (digR s (i : Int)).2) = ((k : Int), true) ∧ (g (digR s (i : Int)).2).length ≤ 6) :
    ACalls Try.prog 92 [.agg (arrV A), .sl 1 (intsA .i64 s), .fn f [] [.ep 1 [[v1]] 0 0, .ep 1 [[v2]] 0 0]] (.agg (arrV (.mk A.s s (movedL A s g)))) := by
  have hB : maxB = 1000000000 := rfl
  have lcs := cells_len A
  have l6 := cnt_len h1
  have ls := intsA_len .i64 s
  obtain ⟨a1, a2, a3, a4⟩ := hA.parts
  have c0 := cloneInt_a (intsA .i64 s) (by omega)
  have hml := movedL_len A s g
  have hat := fun i (h : i < A.cells.length) => movedL_at A s g h
  generalize movedL A s g = X at hml hat ⊢
  refine acalls_of code_turn_moved (by simp [fn_turn_moved]) fun C hC => ?_
  refine walk2 ?_
  refine aw_loopB [1, 2, 3, 6, 19] [0, 1] (fun i : Nat => [(7, .own 2), (20, .lit (.int .i64 i))]) (fun i => [(2, some ⟨true, false, 76, 7, (X.take i).map cellR⟩)]) 3
    (fun i => i ≤ A.cells.length) (fun i => A.cells.length - i) 0 (Nat.zero_le _) ?_
  rintro i hi
  dsimp only [List.cons_append, List.nil_append]
  by_cases hil : i < A.cells.length
  · obtain ⟨k, hk, hidx, hgl⟩ := hg i hil
    have c1 := shAt_m s i h1 (by omega) (by omega)
    have c2 := hf i hil
    have c3 := shIndex_a A.shape (g (digR s (i : Int)).2) (by omega) a2
    have hx := hat i hil
    rw [hidx] at hx c3
    simp only [Int.toNat_natCast] at hx c3
    obtain ⟨c, hc⟩ : ∃ c, A.cells[k]? = some c := ⟨_, List.getElem?_eq_getElem hk⟩
    rw [List.getD_eq_getElem?_getD, hc, Option.getD_some] at hx
    have hck : (A.cells.map cellR)[((k : Nat) : Int).toNat]? = some (cellV c) := cell_at hc
    have hms : (X.take i).map cellR ++ [cellV c] = (X.take (i + 1)).map cellR := by rw [takeA_snoc hx]; simp [cellR_eq]
    have hlm : ((X.take i).map cellR).length = i := by simp; omega
    generalize g (digR s (i : Int)).2 = d' at c2 c3
    generalize (digR s (i : Int)).2 = d at c1 c2
    clear hat hf hg hx hidx
    refine walk2 ?_
    refine aw_reg (rrun2 ?_)
    refine r_callN [] c1 ?_
    refine rrun2 ?_
    refine rg_nil ⟨rfl, ?_⟩
    refine walk2 ?_
    refine aw_reg (rrun2 ?_)
    refine r_callM [(3, 0)] c2 ?_
    refine rrun2 ?_
    refine rg_nil ⟨rfl, ?_⟩
    refine walk2 ?_
    exact ⟨i + 1, by omega, by omega, wkR hC.m [(2, 5)] (by rw [← hms]; rfl)⟩
  · rw [show X.take i = X from List.take_of_length_le (by omega)]
    refine walk2 ?_
    exact fin

set_option maxHeartbeats 1000000 in
theorem moved3_a (A : Arr) (hA : okA A) (s : List Int) (f : FuncId) (v1 v2 v3 : AV) (g : List Int → List Int) (h1 : (cnt s).2 = 0) (h2 : (cnt s).1 = A.cells.length) (hcl : A.cells.length ≤ 2048)
    (hf : ∀ i : Nat, i < A.cells.length → AMut Try.prog f [.own 0, .ep 1 [[v1]] 0 0, .ep 1 [[v2]] 0 0, .ep 1 [[v3]] 0 0] [(0, some ⟨true, false, 3, 1, intsA .i64 (digR s (i : Int)).2⟩)] 1 (.tup []) [(0, some ⟨true, false, 3, 1, intsA .i64 (g (digR s (i : Int)).2)⟩)] 1)
    (hg : ∀ i : Nat, i < A.cells.length → ∃ k : Nat, k < A.cells.length ∧ idx A.shape (g (digR s (i : Int)).2) = ((k : Int), true) ∧ (g (digR s (i : Int)).2).length ≤ 6) :
    ACalls Try.prog 92 [.agg (arrV A), .sl 1 (intsA .i64 s), .fn f [] [.ep 1 [[v1]] 0 0, .ep 1 [[v2]] 0 0, .ep 1 [[v3]] 0 0]] (.agg (arrV (.mk A.s s (movedL A s g)))) := by
  have hB : maxB = 1000000000 := rfl
  have lcs := cells_len A
  have l6 := cnt_len h1
  have ls := intsA_len .i64 s
  obtain ⟨a1, a2, a3, a4⟩ := hA.parts
  have c0 := cloneInt_a (intsA .i64 s) (by omega)
  have hml := movedL_len A s g
  have hat := fun i (h : i < A.cells.length) => movedL_at A s g h
  generalize movedL A s g = X at hml hat ⊢
  refine acalls_of code_turn_moved (by simp [fn_turn_moved]) fun C hC => ?_
  refine walk2 ?_
  refine aw_loopB [1, 2, 3, 6, 19] [0, 1] (fun i : Nat => [(7, .own 2), (20, .lit (.int .i64 i))]) (fun i => [(2, some ⟨true, false, 76, 7, (X.take i).map cellR⟩)]) 3
    (fun i => i ≤ A.cells.length) (fun i => A.cells.length - i) 0 (Nat.zero_le _) ?_
  rintro i hi
  dsimp only [List.cons_append, List.nil_append]
  by_cases hil : i < A.cells.length
  · obtain ⟨k, hk, hidx, hgl⟩ := hg i hil
    have c1 := shAt_m s i h1 (by omega) (by omega)
    have c2 := hf i hil
    have c3 := shIndex_a A.shape (g (digR s (i : Int)).2) (by omega) a2
    have hx := hat i hil
    rw [hidx] at hx c3
    simp only [Int.toNat_natCast] at hx c3
    obtain ⟨c, hc⟩ : ∃ c, A.cells[k]? = some c := ⟨_, List.getElem?_eq_getElem hk⟩
    rw [List.getD_eq_getElem?_getD, hc, Option.getD_some] at hx
    have hck : (A.cells.map cellR)[((k : Nat) : Int).toNat]? = some (cellV c) := cell_at hc
    have hms : (X.take i).map cellR ++ [cellV c] = (X.take (i + 1)).map cellR := by rw [takeA_snoc hx]; simp [cellR_eq]
    have hlm : ((X.take i).map cellR).length = i := by simp; omega
    generalize g (digR s (i : Int)).2 = d' at c2 c3
    generalize (digR s (i : Int)).2 = d at c1 c2
    clear hat hf hg hx hidx
    refine walk2 ?_
    refine aw_reg (rrun2 ?_)
    refine r_callN [] c1 ?_
    refine rrun2 ?_
    refine rg_nil ⟨rfl, ?_⟩
    refine walk2 ?_
    refine aw_reg (rrun2 ?_)
    refine r_callM [(3, 0)] c2 ?_
    refine rrun2 ?_
    refine rg_nil ⟨rfl, ?_⟩
    refine walk2 ?_
    exact ⟨i + 1, by omega, by omega, wkR hC.m [(2, 5)] (by rw [← hms]; rfl)⟩
  · rw [show X.take i = X from List.take_of_length_le (by omega)]
    refine walk2 ?_
    exact fin

end Go.Proofs.Ytfnilbkahkbljaa
namespace Go.Proofs.Ytfnilbkahkbljaa
set_option linter.unusedVariables false
open Go.RowKit

/-- cells, each from the place that a function tells -/
def permL (cs : List Cell) (p : Nat → Nat) : List Cell := (List.range cs.length).map fun i => cs.getD (p i) cellD
theorem permL_len (cs : List Cell) (p : Nat → Nat) : (permL cs p).length = cs.length := by simp [permL]
theorem permL_get (cs : List Cell) (p : Nat → Nat) {i : Nat} (h : i < cs.length) : (permL cs p)[i]? = some (cs.getD (p i) cellD) := by
  unfold permL; rw [List.getElem?_map, List.getElem?_range h]; rfl
theorem permL_getD (cs : List Cell) (p : Nat → Nat) {i : Nat} (h : i < cs.length) : (permL cs p).getD i cellD = cs.getD (p i) cellD := by
  rw [List.getD_eq_getElem?_getD, permL_get cs p h]; rfl
theorem permL_congr {cs : List Cell} {p q : Nat → Nat} (h : ∀ i, i < cs.length → p i = q i) : permL cs p = permL cs q := by
  unfold permL
  apply List.map_congr_left
  intro i hi
  rw [h i (List.mem_range.1 hi)]
theorem permL_mem {cs : List Cell} {p : Nat → Nat} (h : ∀ i, i < cs.length → p i < cs.length) : ∀ c ∈ permL cs p, c ∈ cs := fun c hc => by
  unfold permL at hc
  obtain ⟨i, hi, rfl⟩ := List.mem_map.1 hc
  have := h i (List.mem_range.1 hi)
  rw [List.getD_eq_getElem?_getD, List.getElem?_eq_getElem this]
  exact List.getElem_mem _

/-- the place of a cell along an axis; the same place but for that -/
def jOf (L B i : Nat) : Nat := i / B % L
def rotI (L B k i : Nat) : Nat := (i / B / L * L + k) * B + i % B

section
variable {A L B : Nat}
theorem rot_self (i : Nat) : rotI L B (jOf L B i) i = i := by
  unfold rotI jOf
  have h1 := Nat.div_add_mod (i / B) L
  have h2 := Nat.div_add_mod i B
  rw [Nat.mul_comm (i / B / L) L, h1, Nat.mul_comm]; exact h2
theorem rot_lt (hB : 0 < B) {k i : Nat} (hk : k < L) (hi : i < A * (L * B)) : rotI L B k i < A * (L * B) := by
  have hq : i / B / L < A := by
    rw [Nat.div_div_eq_div_mul]
    exact Nat.div_lt_of_lt_mul (by rw [Nat.mul_comm B L, Nat.mul_comm]; exact hi)
  unfold rotI
  have h1 : (i / B / L + 1) * (L * B) ≤ A * (L * B) := Nat.mul_le_mul_right _ hq
  have h2 : (k + 1) * B ≤ L * B := Nat.mul_le_mul_right _ hk
  have h3 := Nat.mod_lt i hB
  rw [Nat.add_mul, Nat.one_mul] at h1 h2
  rw [Nat.add_mul, Nat.mul_assoc]
  omega
theorem jOf_lt (hL : 0 < L) (i : Nat) : jOf L B i < L := Nat.mod_lt _ hL
end

theorem idx_digR {s : List Int} (h : (cnt s).2 = 0) (hp : ∀ z ∈ s, 0 < z) {N : Nat} (hN : (N : Int) < prodL s) : idx s (digR s (N : Int)).2 = ((N : Int), true) := by
  unfold idx
  rw [if_neg (by simp [h, digR_len]), idxC_digR s _ _ hp, Int.zero_mul, Int.zero_add, Int.emod_eq_of_lt (by omega) hN]
  rfl

/-- another place along an axis -/
def setF (x : Nat) (k : Int → Int) (d : List Int) : List Int := d.set x (k (d.getD x 0))

structure Ax (s : List Int) (x L A B : Nat) : Prop where
  h : (cnt s).2 = 0
  z : s[x]? = some (L : Int)
  pos : ∀ z ∈ s, 0 < z
  a : prodL (s.take x) = (A : Int)
  b : prodL (s.drop (x + 1)) = (B : Int)
  c : (cnt s).1 = ((A * (L * B) : Nat) : Int)

theorem ax_of {s : List Int} {x L : Nat} (h : (cnt s).2 = 0) (hz : s[x]? = some (L : Int)) (h0 : 0 < (cnt s).1) : Ax s x L (aheadN s x) (behindN s x) := by
  rcases geo h hz with ⟨g1, g2, g3, g4⟩ | ⟨_, g2, _⟩
  · exact ⟨h, hz, g1, g2, g3, g4⟩
  · omega

theorem Ax.B_pos {s : List Int} {x L A B : Nat} (K : Ax s x L A B) : 0 < B := by
  have := prodL_pos (s.drop (x + 1)) (fun z hz => K.pos z (List.mem_of_mem_drop hz))
  have := K.b; omega
theorem Ax.L_pos {s : List Int} {x L A B : Nat} (K : Ax s x L A B) : 0 < L := by
  have := K.pos _ (List.mem_of_getElem? K.z); omega

theorem dig3T {s1 s2 : List Int} {L : Int} (hp : ∀ z ∈ s2, 0 < z) (q j r B l : Nat) (hB : prodL s2 = B) (hr : r < B) (hL : L = l) (hj : j < l) :
    (digR (s1 ++ L :: s2) (((q * l + j) * B + r : Nat) : Int)).2 = (digR s1 q).2 ++ (j : Int) :: (digR s2 r).2 := by
  have e1 : (digR s2 (((q * l + j) * B + r : Nat) : Int)).1 = ((q * l + j : Nat) : Int) := by
    rw [digR_fst s2 _ hp, hB, ← Int.natCast_ediv]
    rw [Nat.add_comm, Nat.add_mul_div_right _ _ (by omega), Nat.div_eq_of_lt hr, Nat.zero_add]
  have e2 : (digR s2 (((q * l + j) * B + r : Nat) : Int)).2 = (digR s2 r).2 := digR_mod s2 _ _ hp (by
    rw [hB, ← Int.natCast_emod, ← Int.natCast_emod, Nat.add_comm, Nat.add_mul_mod_self_right])
  rw [digR_append]
  have e3 : digR (L :: s2) (((q * l + j) * B + r : Nat) : Int) = ((q : Int), (j : Int) :: (digR s2 r).2) := by
    show (_, _) = _
    rw [e1, e2, hL]
    have h1 : ((q * l + j : Nat) : Int) / (l : Int) = q := by
      rw [← Int.natCast_ediv, Nat.add_comm, Nat.add_mul_div_right _ _ (by omega), Nat.div_eq_of_lt hj, Nat.zero_add]
    have h2 : ((q * l + j : Nat) : Int) % (l : Int) = j := by
      rw [← Int.natCast_emod, Nat.add_comm, Nat.add_mul_mod_self_right, Nat.mod_eq_of_lt hj]
    rw [h1, h2]
  rw [e3]

/-- the digits of a place, one of them changed -/
theorem Ax.dig {s : List Int} {x L A B : Nat} (K : Ax s x L A B) (i : Nat) : (digR s (i : Int)).2[x]? = some ((jOf L B i : Nat) : Int) ∧ ∀ k : Nat, k < L → (digR s (i : Int)).2.set x (k : Int) = (digR s ((rotI L B k i : Nat) : Int)).2 := by
  have hB := K.B_pos
  have hL := K.L_pos
  have hs := split_at K.z
  have hp2 : ∀ z ∈ s.drop (x + 1), 0 < z := fun z hz => K.pos z (List.mem_of_mem_drop hz)
  have hx := (List.getElem?_eq_some_iff.1 K.z).1
  have hl : (digR (s.take x) (i / B / L : Nat)).2.length = x := by rw [digR_len]; simp; omega
  have key : ∀ k : Nat, k < L → (digR s ((rotI L B k i : Nat) : Int)).2 = (digR (s.take x) ((i / B / L : Nat) : Int)).2 ++ (k : Int) :: (digR (s.drop (x + 1)) ((i % B : Nat) : Int)).2 := fun k hk => by
    conv => lhs; rw [hs]
    exact dig3T hp2 (i / B / L) k (i % B) B L K.b (Nat.mod_lt i hB) rfl hk
  have k0 := key (jOf L B i) (jOf_lt hL i)
  rw [rot_self] at k0
  refine ⟨?_, fun k hk => ?_⟩
  · rw [k0, List.getElem?_append_right (by omega), hl, Nat.sub_self]; rfl
  · rw [k0, key k hk, List.set_append, if_neg (by omega), hl, Nat.sub_self, List.set_cons_zero]

theorem Ax.getD {s : List Int} {x L A B : Nat} (K : Ax s x L A B) (i : Nat) : (digR s (i : Int)).2.getD x 0 = ((jOf L B i : Nat) : Int) := by
  rw [List.getD_eq_getElem?_getD, (K.dig i).1]; rfl
end Go.Proofs.Ytfnilbkahkbljaa
