/- Lines along an axis: the two together; the law's own functions. -/
import Derived.Test.YtfnilbkahkbljaaOperG
namespace Go.Proofs.Ytfnilbkahkbljaa
set_option linter.unusedVariables false
open Go.RowKit

theorem geo {s : List Int} {len : Nat} (first : Bool) (h1 : (cnt s).2 = 0) (hc : (cnt s).1 = len) (hs : 0 < s.length) (he : (cnt (restP s (axisN s first))).2 = 0) :
    ∃ (s1 s2 : List Int) (N L B : Nat), s = s1 ++ (L : Int) :: s2 ∧ s1.length = axisN s first ∧ restP s (axisN s first) = s1 ++ s2 ∧ s.take (axisN s first) = s1 ∧ s.drop (axisN s first + 1) = s2 ∧ s[axisN s first]? = some (L : Int) ∧ prodC s1 1 = N ∧ prodC s2 1 = B ∧ prodL s1 = N ∧ prodL s2 = B ∧ N * L * B = len ∧ N ≤ 2048 ∧ L ≤ 2048 ∧ B ≤ 2048 ∧ N * B ≤ 2048 ∧ len ≤ 2048 := by
  have hx : axisN s first < s.length := by unfold axisN; split <;> omega
  have hsm := cnt_small h1
  have hle := cnt_le s
  have hleR := cnt_le (restP s (axisN s first))
  rw [cnt_prod he] at hleR
  obtain ⟨z, hz⟩ : ∃ z, s[axisN s first]? = some z := ⟨_, List.getElem?_eq_getElem hx⟩
  have hzr := hsm z (List.mem_of_getElem? hz)
  have hL : ((z.toNat : Nat) : Int) = z := by omega
  have e1 : s = s.take (axisN s first) ++ z :: s.drop (axisN s first + 1) := by
    rw [← dropA_cons hz, List.take_append_drop]
  have n1 := prodL_nonneg (s.take (axisN s first)) (fun y hy => (hsm y (List.mem_of_mem_take hy)).1)
  have n2 := prodL_nonneg (s.drop (axisN s first + 1)) (fun y hy => (hsm y (List.mem_of_mem_drop hy)).1)
  have hpr := cnt_prod h1
  rw [hc] at hpr
  have ep : prodL s = prodL (s.take (axisN s first)) * z * prodL (s.drop (axisN s first + 1)) := by
    conv => lhs; rw [e1]
    rw [prodL_append, prodL_cons, Int.mul_assoc]
  have er : prodL (restP s (axisN s first)) = prodL (s.take (axisN s first)) * prodL (s.drop (axisN s first + 1)) := by
    rw [restP, prodL_append]
  have hcase : (s.take (axisN s first) = [] ∧ s.drop (axisN s first + 1) = restP s (axisN s first)) ∨ (s.drop (axisN s first + 1) = [] ∧ s.take (axisN s first) = restP s (axisN s first)) := by
    cases first
    · right
      have hd : s.drop (axisN s false + 1) = [] := List.drop_eq_nil_of_le (by simp [axisN]; omega)
      exact ⟨hd, by rw [restP, hd, List.append_nil]⟩
    · left
      have hd : s.take (axisN s true) = [] := by simp [axisN]
      exact ⟨hd, by rw [restP, hd, List.nil_append]⟩
  have hpc := prodC_cnt he
  have hc1 : prodC (s.take (axisN s first)) 1 = prodL (s.take (axisN s first)) ∧ prodC (s.drop (axisN s first + 1)) 1 = prodL (s.drop (axisN s first + 1)) ∧ prodL (s.take (axisN s first)) ≤ 2048 ∧ prodL (s.drop (axisN s first + 1)) ≤ 2048 := by
    rcases hcase with ⟨h, k⟩ | ⟨h, k⟩ <;> rw [h, k]
    · exact ⟨rfl, hpc, by simp [prodL], hleR.2⟩
    · exact ⟨hpc, rfl, hleR.2, by simp [prodL]⟩
  rw [er] at hleR
  refine ⟨s.take (axisN s first), s.drop (axisN s first + 1), (prodL (s.take (axisN s first))).toNat, z.toNat, (prodL (s.drop (axisN s first + 1))).toNat, ?_, ?_, rfl, rfl, rfl, ?_, ?_, ?_, ?_, ?_, ?_, ?_, ?_, ?_, ?_, ?_⟩
  · rw [hL]; exact e1
  · simp; omega
  · rw [hL]; exact hz
  · rw [hc1.1]; omega
  · rw [hc1.2.1]; omega
  · omega
  · omega
  · have : ((((prodL (s.take (axisN s first))).toNat * z.toNat * (prodL (s.drop (axisN s first + 1))).toNat : Nat)) : Int) = len := by
      rw [Int.natCast_mul, Int.natCast_mul, Int.toNat_of_nonneg n1, Int.toNat_of_nonneg n2, hL, ← ep, ← hpr]
    omega
  · omega
  · omega
  · omega
  · have : (((prodL (s.take (axisN s first))).toNat * (prodL (s.drop (axisN s first + 1))).toNat : Nat) : Int) ≤ 2048 := by
      rw [Int.natCast_mul, Int.toNat_of_nonneg n1, Int.toNat_of_nonneg n2]; exact hleR.2
    omega
  · omega

theorem cellOK_D : cellOK cellD := by
  simp only [cellD, cellOK, numOK, arrsOK, List.length_nil, List.not_mem_nil]
  exact ⟨by omega, by decide, ⟨fun _ h => h.elim, fun _ h => h.elim, by decide, by decide⟩, by decide, by decide, trivial⟩

theorem lines26_a (X : List (List Cell)) (hb : X.length ≤ 1000000) (hX : ∀ l ∈ X, l.length ≤ 1000000 ∧ ∀ c ∈ l, cellOK c) : ACalls Try.prog 18 [.sl 1 (X.map lineV), .sl 1 (X.map lineV)] (.lit (.bool true)) := by
  have lx : ((X.map lineV).length : Int) = X.length := by simp
  refine acalls_of code_scrimlaw26_lines (by simp [fn_scrimlaw26_lines]) fun C hC => ?_
  refine walk2 ?_
  refine aw_loopB [0, 1] [] (fun i : Nat => [(5, .lit (.int .i64 i))]) (fun _ => []) 0 (fun i => i ≤ X.length) (fun i => X.length - i) 0 (Nat.zero_le _) ?_
  rintro i hi
  dsimp only [List.cons_append, List.nil_append]
  by_cases hil : i < X.length
  · obtain ⟨l, hl⟩ : ∃ l, X[i]? = some l := ⟨_, List.getElem?_eq_getElem hil⟩
    obtain ⟨hll, hlc⟩ := hX l (List.mem_of_getElem? hl)
    have hlk : (X.map lineV)[((i : Nat) : Int).toNat]? = some [.sl 7 (l.map cellR)] := by rw [Int.toNat_natCast]; simp [hl, lineV]
    have lc : ((l.map cellR).length : Int) = l.length := by simp
    refine walk2 ?_
    refine aw_loopB [0, 1, 5] [] (fun k : Nat => [(6, .lit (.int .i64 k))]) (fun _ => []) 0 (fun k => k ≤ l.length) (fun k => l.length - k) 0 (Nat.zero_le _) ?_
    rintro k hk
    dsimp only [List.cons_append, List.nil_append]
    by_cases hkl : k < l.length
    · obtain ⟨c, hc⟩ : ∃ c, l[k]? = some c := ⟨_, List.getElem?_eq_getElem hkl⟩
      have hcv : (l.map cellR)[((k : Nat) : Int).toNat]? = some (cellV c) := by rw [Int.toNat_natCast]; exact cell_at hc
      have hco := hlc c (List.mem_of_getElem? hc)
      have c1 := sameCell_a c c hco hco
      rw [sameC_refl] at c1
      refine walk2 ?_
      exact ⟨k + 1, by omega, by omega, wkR hC.m []⟩
    · refine walk2 ?_
      exact ⟨i + 1, by omega, by omega, wkR hC.m []⟩
  · refine walk2 ?_
    exact fin

theorem light26_a (A : Arr) (hA : arrOK A) : ACalls Try.prog 14 [.agg (arrV A)] (.lit (.bool (goodA A && decide (A.cells.length ≤ 100)))) := by
  have lcs := cells_len A
  have c1 := good_a A hA
  refine acalls_of code_scrimlaw26_light (by simp [fn_scrimlaw26_light]) fun C hC => ?_
  cases h : goodA A <;> rw [h] at c1
  · refine walk2 ?_
    exact fin
  · by_cases hc : A.cells.length ≤ 100
    · rw [decide_eq_true hc]
      refine walk2 ?_
      exact fin
    · rw [decide_eq_false hc]
      refine walk2 ?_
      exact fin

theorem intC_ok (z : Int) (h : z.natAbs < 2 ^ 64) : okC (intC z) := by
  have := limbs_len_pow 64 z.natAbs h
  simp only [intC, okC, ofZ, okAs, maxB, List.length_nil, List.length_cons]
  exact ⟨by omega, by omega, by omega, by omega, trivial⟩

theorem u32_ok {m : List Int} (h : limOK m) : ∀ z ∈ m, (Lit.int .u32 z).wf = true := fun z hz => by
  have := h z hz
  have e1 : IntKind.u32.min = 0 := by decide
  have e2 : IntKind.u32.max = 4294967295 := by decide
  simp only [Lit.wf, Bool.and_eq_true, decide_eq_true_eq]
  omega

theorem intC_OK (z : Int) (h : z.natAbs < 2 ^ 64) : cellOK (intC z) := by
  have := limbs_len_pow 64 z.natAbs h
  have hr : reachBytes = 140737488351232 := by decide
  simp only [intC, cellOK, ofZ, numOK, arrsOK, List.length_nil, List.length_cons]
  exact ⟨by omega, by decide, ⟨u32_ok (limbs_ok _), by simp; decide, by omega, by omega⟩, by decide, by omega, trivial⟩

def awakeA : Arr := .mk 0 [2, 2] ([1, 2, 3, 4].map intC)
theorem awake26_a : ACalls Try.prog 15 [] (.lit (.bool true)) := by
  have c1 := r11Vector_a [1, 2, 3, 4] 0 (by simp [maxB]) (by intro z hz; simp at hz; omega)
  have ok : okA awakeA := by
    simp only [awakeA, okA, List.map_cons, List.map_nil, okCs, List.length_cons, List.length_nil, maxB]
    exact ⟨by omega, by omega, by omega, intC_ok _ (by decide), intC_ok _ (by decide), intC_ok _ (by decide), intC_ok _ (by decide), trivial⟩
  have c0 := along_ok [2, 2] true 2 1 2 (by decide) rfl (by decide) rfl rfl
  have c2 := operLines_core awakeA true ok [2] 1 2 2 (by simp [awakeA, Arr.shape]) c0 (by simp [awakeA, Arr.cells]) (by omega) (by omega) (by omega) (by omega) (by omega) (by simp [awakeA, Arr.cells])
  have e : linesQ awakeA.cells 2 2 (1 * 2) = [[intC 1, intC 3], [intC 2, intC 4]] := rfl
  rw [e] at c2
  have c3 := ints_a [2] [2]
  rw [show intsP [2] [2] = true from rfl] at c3
  have c4 := r8Int_a 3 (by omega) (by omega)
  have c5 := sameCell_a (intC 3) (intC 3) (intC_OK _ (by decide)) (intC_OK _ (by decide))
  rw [sameC_refl] at c5
  have hX0 : (List.map lineV [[intC 1, intC 3], [intC 2, intC 4]])[(0 : Int).toNat]? = some [.sl 7 ([intC 1, intC 3].map cellR)] := rfl
  have hX1 : ((List.map lineV [[intC 1, intC 3], [intC 2, intC 4]]).length : Int) = 2 := rfl
  have hY0 : ([intC 1, intC 3].map cellR)[(1 : Int).toNat]? = some (cellV (intC 3)) := rfl
  have hY1 : (([intC 1, intC 3].map cellR).length : Int) = 2 := rfl
  generalize List.map lineV [[intC 1, intC 3], [intC 2, intC 4]] = X at c2 hX0 hX1
  generalize [intC 1, intC 3].map cellR = Y at hX0 hY0 hY1
  clear ok c0 e
  refine acalls_of code_scrimlaw26_awake (by simp [fn_scrimlaw26_awake]) fun C hC => ?_
  refine walk2 ?_
  exact fin
end Go.Proofs.Ytfnilbkahkbljaa
