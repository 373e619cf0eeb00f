/- Parts of an array: what the reference's Cells answers. -/
import Derived.Test.YtfnilbkahkbljaaOperC
namespace Go.Proofs.Ytfnilbkahkbljaa
set_option linter.unusedVariables false
open Go.RowKit

theorem cut_cases (A : Arr) (k : Int) : (k < 0 ∧ ((cutN A k : Nat) : Int) = A.shape.length - 0) ∨ (0 ≤ k ∧ k ≤ A.shape.length ∧ ((cutN A k : Nat) : Int) = A.shape.length - k) ∨ ((A.shape.length : Int) < k ∧ ((cutN A k : Nat) : Int) = A.shape.length - A.shape.length) := by
  unfold cutN
  by_cases h : k < 0
  · left; omega
  · by_cases h2 : k ≤ A.shape.length
    · right; left; omega
    · right; right; omega

theorem refCells_err1 (A : Arr) (k : Int) (hl : A.shape.length ≤ maxB) (he : (cnt (A.shape.drop (cutN A k))).2 ≠ 0) :
    ACalls Try.prog 30 [.agg (arrV A), .lit (.int .i64 k)] (.tup [.sl 3 [], .sl 1 (intsA .i64 (A.shape.take (cutN A k)))]) := by
  have hB : maxB = 1000000000 := rfl
  have lsh := intsA_len .i64 A.shape
  have hcut := cutN_le A k
  have k1 := Cut.upto (k := .i64) (s := A.shape) (b := cutN A k) hcut
  have k2 := Cut.from (k := .i64) (s := A.shape) (a := cutN A k) hcut
  have c2 := rcount_a (A.shape.drop (cutN A k))
  rw [rcnt_eq] at c2
  generalize (cnt (A.shape.drop (cutN A k))).1 = n2 at c2
  generalize (cnt (A.shape.drop (cutN A k))).2 = e2 at c2 he
  have hcc := cut_cases A k
  generalize hcd : cutN A k = cut at hcut k1 k2 c2 hcc ⊢
  refine acalls_of code_scrimref26_Cells (by simp [fn_scrimref26_Cells]) fun C hC => ?_
  rcases hcc with ⟨hk, hc⟩ | ⟨hk, hk2, hc⟩ | ⟨hk, hc⟩
  all_goals
    refine walk2 ?_
    refine aw_slot 6 (.lit (.int .i64 (cut : Nat))) (by rw [hc]; rfl) ?_
    refine aw_keep [2, 4, 5, 6] [0] ?_
    refine walk2 ?_
    exact fin

theorem refCells_err2 (A : Arr) (k : Int) (hl : A.shape.length ≤ maxB) (h2 : (cnt (A.shape.drop (cutN A k))).2 = 0) (he : (cnt (A.shape.take (cutN A k))).2 ≠ 0) :
    ACalls Try.prog 30 [.agg (arrV A), .lit (.int .i64 k)] (.tup [.sl 3 [], .sl 1 (intsA .i64 (A.shape.take (cutN A k)))]) := by
  have hB : maxB = 1000000000 := rfl
  have lsh := intsA_len .i64 A.shape
  have hcut := cutN_le A k
  have k1 := Cut.upto (k := .i64) (s := A.shape) (b := cutN A k) hcut
  have k2 := Cut.from (k := .i64) (s := A.shape) (a := cutN A k) hcut
  have c2 := rcount_a (A.shape.drop (cutN A k))
  rw [rcnt_eq, h2] at c2
  have c3 := places_a _ h2
  have c4 := places_err _ he
  generalize (cnt (A.shape.drop (cutN A k))).1 = n2 at c2
  have hcc := cut_cases A k
  generalize hcd : cutN A k = cut at hcut k1 k2 c2 c3 c4 hcc ⊢
  have hz : ((([] : List (List AV)).length : Nat) : Int) = 0 := rfl
  refine acalls_of code_scrimref26_Cells (by simp [fn_scrimref26_Cells]) fun C hC => ?_
  rcases hcc with ⟨hk, hc⟩ | ⟨hk, hk2, hc⟩ | ⟨hk, hc⟩
  all_goals
    refine walk2 ?_
    refine aw_slot 6 (.lit (.int .i64 (cut : Nat))) (by rw [hc]; rfl) ?_
    refine aw_keep [2, 4, 5, 6] [0] ?_
    refine walk2 ?_
    refine aw_loopB [7, 11, 13] [] (fun n : Nat => [(14, .lit (.int .i64 n))]) (fun n => []) 1 (fun n => n = 0) (fun n => 0) 0 rfl ?_
    rintro n rfl
    dsimp only [List.cons_append, List.nil_append]
    refine walk2 ?_
    exact fin

theorem digR_two {s1 s2 : List Int} (hp : ∀ z ∈ s2, 0 < z) (i j Q : Nat) (hQ : prodL s2 = Q) (hj : j < Q) :
    (digR (s1 ++ s2) ((i * Q + j : Nat) : Int)).2 = (digR s1 i).2 ++ (digR s2 j).2 := by
  have e1 : (digR s2 ((i * Q + j : Nat) : Int)).1 = (i : Int) := by
    rw [digR_fst s2 _ hp, hQ, ← Int.natCast_ediv]
    rw [Nat.add_comm, Nat.add_mul_div_right _ _ (by omega), Nat.div_eq_of_lt hj, Nat.zero_add]
  have e2 : (digR s2 ((i * Q + j : Nat) : Int)).2 = (digR s2 j).2 := digR_mod s2 _ _ hp (by
    rw [hQ, ← Int.natCast_emod, ← Int.natCast_emod, Nat.add_comm, Nat.add_mul_mod_self_right])
  rw [digR_append, e1, e2]

set_option maxHeartbeats 2000000 in
theorem refCells_ok (A : Arr) (k : Int) (hA : okA A) (h0 : (cnt A.shape).2 = 0) (h1 : (cnt (A.shape.take (cutN A k))).2 = 0) (h2 : (cnt (A.shape.drop (cutN A k))).2 = 0) (P Q : Nat) (hP : (cnt (A.shape.take (cutN A k))).1 = P) (hQ : (cnt (A.shape.drop (cutN A k))).1 = Q)
    (hPQ : P * Q = A.cells.length) (hcl : A.cells.length ≤ 5000) (hPb : P ≤ 5000) (hQb : Q ≤ 5000) :
    ACalls Try.prog 30 [.agg (arrV A), .lit (.int .i64 k)] (.tup [.sl 3 ((partsQ A k P Q).map arrR), .sl 1 (intsA .i64 (A.shape.take (cutN A k)))]) := by
  have hB : maxB = 1000000000 := rfl
  obtain ⟨a1, a2, a3, a4⟩ := hA.parts
  have lsh := intsA_len .i64 A.shape
  have lcs := cells_len A
  have hl6 := cnt_len h0
  have hcut := cutN_le A k
  have k1 := Cut.upto (k := .i64) (s := A.shape) (b := cutN A k) hcut
  have k2 := Cut.from (k := .i64) (s := A.shape) (a := cutN A k) hcut
  have c2 := rcount_a (A.shape.drop (cutN A k))
  rw [rcnt_eq, h2, hQ] at c2
  have c3 := places_a _ h1
  have c4 := places_a _ h2
  have hX := partsQ_len A k P Q
  have hXat : ∀ i, i < P → (partsQ A k P Q)[i]? = some (.mk A.s (A.shape.drop (cutN A k)) ((A.cells.drop (i * Q)).take Q)) := fun i hi => partsQ_at A k P Q i hi
  have hcc := cut_cases A k
  have hsp := List.take_append_drop (cutN A k) A.shape
  have hp1 := cnt_prod h1
  have hp2 := cnt_prod h2
  rw [hP] at hp1
  rw [hQ] at hp2
  have hl1 := placesL_len (A.shape.take (cutN A k))
  have hl2 := placesL_len (A.shape.drop (cutN A k))
  rw [← hp1, Int.toNat_natCast] at hl1
  rw [← hp2, Int.toNat_natCast] at hl2
  have hs2 := cnt_small h2
  have hs0 := cnt_small h0
  have hat1 : ∀ i, i < P → (placesL (A.shape.take (cutN A k)))[i]? = some (digR (A.shape.take (cutN A k)) i).2 := fun i hi => placesL_at _ (by rw [← hp1]; exact hi)
  have hat2 : ∀ i, i < Q → (placesL (A.shape.drop (cutN A k)))[i]? = some (digR (A.shape.drop (cutN A k)) i).2 := fun i hi => placesL_at _ (by rw [← hp2]; exact hi)
  have hf1 : (A.shape.take (cutN A k)).length ≤ 6 := by simp; omega
  have hf2 : (A.shape.drop (cutN A k)).length ≤ 6 := by simp; omega
  generalize partsQ A k P Q = X at hX hXat ⊢
  generalize cutN A k = cut at hcut k1 k2 c2 c3 c4 hcc hXat hsp hp1 hp2 hl1 hl2 hs2 hat1 hat2 hf1 hf2 h1 h2 hP hQ ⊢
  generalize A.shape.take cut = F at k1 c3 hsp hp1 hl1 hat1 hf1 h1 hP ⊢
  generalize A.shape.drop cut = S at k2 c2 c4 hsp hp2 hl2 hat2 hs2 hf2 h2 hQ hXat ⊢
  have hfind : ∀ i j, i < P → j < Q → findL (placesL A.shape) ((digR F i).2 ++ (digR S j).2) 0 = ((i * Q + j : Nat) : Int) := fun i j hi hj => by
    have hpS : ∀ z ∈ S, 0 < z := pos_of_prod hs2 (by rw [← hp2]; omega)
    have hlt : i * Q + j < A.cells.length := by
      have : (i + 1) * Q ≤ P * Q := Nat.mul_le_mul_right _ hi
      rw [Nat.succ_mul] at this; omega
    have hpr : prodL A.shape = ((P * Q : Nat) : Int) := by rw [← hsp, prodL_append, ← hp1, ← hp2, Int.natCast_mul]
    have hpA : ∀ z ∈ A.shape, 0 < z := pos_of_prod hs0 (by rw [hpr, hPQ]; omega)
    rw [← digR_two (s1 := F) hpS i j Q hp2.symm hj, hsp]
    exact find_digR hpA (by omega) (by rw [hpr, hPQ]; omega)
  have hl1I : (((placesL F).map placeV).length : Int) = P := by simp [hl1]
  have hl2I : (((placesL S).map placeV).length : Int) = Q := by simp [hl2]
  generalize placesL F = PF at c3 hl1 hat1 hl1I
  generalize placesL S = PS at c4 hl2 hat2 hl2I
  refine acalls_of code_scrimref26_Cells (by simp [fn_scrimref26_Cells]) fun C hC => ?_
  rcases hcc with ⟨hk, hc⟩ | ⟨hk, hk2, hc⟩ | ⟨hk, hc⟩
  all_goals
    refine walk2 ?_
    refine aw_slot 6 (.lit (.int .i64 (cut : Nat))) (by rw [hc]; rfl) ?_
    refine aw_keep [2, 4, 5, 6] [0] ?_
    refine walk2 ?_
    refine aw_nil 13 26 3 rfl ?_
    refine aw_loopB [2, 7, 8, 11, 12] [0] (fun i : Nat => [(13, .own 1), (14, .lit (.int .i64 i))]) (fun i => [(1, some ⟨true, false, 26, 3, (X.take i).map arrR⟩)]) 2
      (fun i => i ≤ P) (fun i => P - i) 0 (Nat.zero_le _) ?_
    rintro i hi
    dsimp only [List.cons_append, List.nil_append]
    by_cases hil : i < P
    · have hXi := hXat i hil
      have hpi := hat1 i hil
      have hpk : (PF.map placeV)[((i : Nat) : Int).toNat]? = some [.sl 1 (intsA .i64 (digR F i).2)] := by rw [Int.toNat_natCast]; simp [hpi, placeV]
      have hdl1 := digR_len F i
      have ldi := intsA_len .i64 (digR F i).2
      have hfi := fun j hj => hfind i j hil hj
      have hib : (i + 1) * Q ≤ P * Q := Nat.mul_le_mul_right _ hil
      rw [Nat.succ_mul, hPQ] at hib
      have hms : (X.take i).map arrR ++ [[labV A.s, .sl 1 (intsA .i64 S), .sl 7 (((A.cells.drop (i * Q)).take Q).map cellR)]] = (X.take (i + 1)).map arrR := by
        rw [takeA_snoc hXi]; simp [arrR_eq, arrV, Arr.s, Arr.shape, Arr.cells]
      have hlm : ((X.take i).map arrR).length = i := by simp; omega
      have hcell : ∀ j, j < Q → ∃ c, A.cells[i * Q + j]? = some c ∧ ((A.cells.drop (i * Q)).take Q)[j]? = some c := fun j hj => by
        refine ⟨_, List.getElem?_eq_getElem (by omega), ?_⟩
        rw [List.getElem?_take, if_pos hj, List.getElem?_drop]
        exact List.getElem?_eq_getElem (by omega)
      have hpl : ((A.cells.drop (i * Q)).take Q).length = Q := by simp; omega
      generalize (A.cells.drop (i * Q)).take Q = cs at hms hcell hpl
      generalize (digR F (i : Int)).2 = p at hpk hdl1 ldi hfi
      clear hXi hpi
      refine walk2 ?_
      refine aw_nilF 2 2 76 7 rfl rfl rfl rfl ?_
      refine aw_loopB [2, 7, 8, 11, 12, 13, 14, 15] [0, 1] (fun j : Nat => [(16, .lit (.int .i64 j))]) (fun j => [(2, some ⟨false, false, 26, 3, [[labV A.s, .sl 1 (intsA .i64 S), .own 3]]⟩), (3, some ⟨true, false, 76, 7, (cs.take j).map cellR⟩)]) 4
        (fun j => j ≤ Q) (fun j => Q - j) 0 (Nat.zero_le _) ?_
      rintro j hj
      dsimp only [List.cons_append, List.nil_append]
      by_cases hjl : j < Q
      · obtain ⟨c, hc1, hc2⟩ := hcell j hjl
        have hqj := hat2 j hjl
        have hqk : (PS.map placeV)[((j : Nat) : Int).toNat]? = some [.sl 1 (intsA .i64 (digR S j).2)] := by rw [Int.toNat_natCast]; simp [hqj, placeV]
        have hdl2 := digR_len S j
        have ldj := intsA_len .i64 (digR S j).2
        have cI := refIndex_a A.shape (p ++ (digR S j).2) h0
        rw [hfi j hjl, ← intsA_app] at cI
        have hcv : (A.cells.map cellR)[((i * Q + j : Nat) : Int).toNat]? = some (cellV c) := by rw [Int.toNat_natCast]; exact cell_at hc1
        have hix : i * Q + j < A.cells.length := (List.getElem?_eq_some_iff.1 hc1).1
        have hms2 : (cs.take j).map cellR ++ [cellV c] = (cs.take (j + 1)).map cellR := by
          rw [takeA_snoc hc2]; simp [cellR_eq]
        have hlm2 : ((cs.take j).map cellR).length = j := by simp; omega
        generalize i * Q + j = ix at cI hcv hix
        generalize (digR S (j : Int)).2 = q at hqk hdl2 ldj cI
        clear hc1 hc2 hqj
        refine walk2 ?_
        exact ⟨j + 1, by omega, by omega, wkR hC.m [(3, 7)] (by rw [← hms2]; rfl)⟩
      · rw [show cs.take j = cs from List.take_of_length_le (by omega)]
        refine aw_freeze 3 rfl ?_
        refine walk2 ?_
        exact ⟨i + 1, by omega, by omega, wkR hC.m [(1, 5)] (by rw [← hms]; rfl)⟩
    · rw [show X.take i = X from List.take_of_length_le (by omega)]
      refine walk2 ?_
      exact fin
end Go.Proofs.Ytfnilbkahkbljaa
