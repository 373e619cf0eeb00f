/- How many cells an array has, with all within: array.Size, scrimref08.Size. -/
import Derived.Test.YtmbigpjokpdnkaaTotP
import Derived.Test.YtmbigpjokpdnkaaCodeS
namespace Go.Proofs.Ytmbigpjokpdnkaa
set_option linter.unusedVariables false
open Go.RowKit

mutual
def sizA : Arr → Nat
  | .mk _ _ cs => sizCs cs cs.length
def sizCs : List Cell → Nat → Nat
  | [], n => n
  | c :: cs, n => sizCs cs (sizC c n)
def sizC : Cell → Nat → Nat
  | .mk _ _ _ _ ins, n => sizAs ins n
def sizAs : List Arr → Nat → Nat
  | [], n => n
  | a :: xs, n => sizAs xs (n + sizA a)
end

theorem sizA_eq (A : Arr) : sizA A = sizCs A.cells A.cells.length := by cases A; simp only [sizA, Arr.cells]
theorem sizC_eq (c : Cell) (n : Nat) : sizC c n = sizAs c.ins n := by cases c; simp only [sizC, Cell.ins]
theorem sizCs_at {cs : List Cell} {k : Nat} {c : Cell} (h : cs[k]? = some c) (n : Nat) : sizCs (cs.drop k) n = sizCs (cs.drop (k + 1)) (sizAs c.ins n) := by
  rw [dropA_cons h, sizCs, sizC_eq]
theorem sizAs_at {xs : List Arr} {k : Nat} {a : Arr} (h : xs[k]? = some a) (n : Nat) : sizAs (xs.drop k) n = sizAs (xs.drop (k + 1)) (n + sizA a) := by
  rw [dropA_cons h, sizAs]

mutual
theorem sizCs_ge : ∀ (cs : List Cell) (n : Nat), n ≤ sizCs cs n
  | [], n => by simp [sizCs]
  | c :: cs, n => by simp only [sizCs]; exact Nat.le_trans (sizC_ge c n) (sizCs_ge cs _)
theorem sizC_ge : ∀ (c : Cell) (n : Nat), n ≤ sizC c n
  | .mk _ _ _ _ ins, n => by simp only [sizC]; exact sizAs_ge ins n
theorem sizAs_ge : ∀ (xs : List Arr) (n : Nat), n ≤ sizAs xs n
  | [], n => by simp [sizAs]
  | a :: xs, n => by simp only [sizAs]; exact Nat.le_trans (Nat.le_add_right _ _) (sizAs_ge xs _)
end

mutual
theorem sizA_left : ∀ (A : Arr) (d : Nat) (n : Int), 0 ≤ leftA A d n → leftA A d n + sizA A ≤ n
  | .mk s sh cs, d, n, h => by
    simp only [leftA] at h ⊢
    split at h
    · omega
    · rename_i hd
      rw [if_neg hd]
      have := sizCs_left cs d _ cs.length h
      simp only [sizA]; omega
theorem sizCs_left : ∀ (cs : List Cell) (d : Nat) (n : Int) (m : Nat), 0 ≤ leftCs cs d n → leftCs cs d n + sizCs cs m + cs.length ≤ n + m
  | [], d, n, m, h => by simp only [leftCs, sizCs, List.length_nil]; omega
  | c :: cs, d, n, m, h => by
    simp only [leftCs, sizCs, List.length_cons] at h ⊢
    split at h
    · rename_i hn
      rw [if_pos hn]
      have h2 : 0 ≤ leftC c d n := by
        by_cases hc : 0 ≤ leftC c d n
        · exact hc
        · rw [leftCs_neg cs d _ (by omega)] at h; omega
      have := sizC_left c d n m h2
      have := sizCs_left cs d _ (sizC c m) h
      omega
    · omega
theorem sizC_left : ∀ (c : Cell) (d : Nat) (n : Int) (m : Nat), 0 ≤ leftC c d n → leftC c d n + sizC c m + 1 ≤ n + m
  | .mk l k nm ch ins, d, n, m, h => by
    simp only [leftC, sizC] at h ⊢
    have := sizAs_left ins (d - 1) _ m h
    omega
theorem sizAs_left : ∀ (xs : List Arr) (d : Nat) (n : Int) (m : Nat), 0 ≤ leftAs xs d n → leftAs xs d n + sizAs xs m ≤ n + m
  | [], d, n, m, h => by simp only [leftAs, sizAs]; omega
  | a :: xs, d, n, m, h => by
    simp only [leftAs, sizAs] at h ⊢
    split at h
    · rename_i hn
      rw [if_pos hn]
      have h2 : 0 ≤ leftA a d n := by
        by_cases hc : 0 ≤ leftA a d n
        · exact hc
        · rw [leftAs_neg xs d _ (by omega)] at h; omega
      have := sizA_left a d n h2
      have := sizAs_left xs d _ (m + sizA a) h
      omega
    · omega
end
theorem few_siz {A : Arr} (h : fewP A = true) : sizA A ≤ 4000 := by
  have h := of_decide_eq_true h
  have := sizA_left A 12 4000 h
  omega

set_option maxHeartbeats 1000000 in
theorem size_a : ∀ (A : Arr), okA A → sizA A ≤ 1000000 → ACalls Try.prog 44 [.agg (arrV A)] (.lit (.int .i64 (sizA A : Nat)))
  | A, hA, hS => by
    have hB : maxB = 1000000000 := rfl
    have lcs := cells_len A
    obtain ⟨a1, a2, a3, a4⟩ := hA.parts
    refine acalls_of code_array_Size (by simp [fn_array_Size]) fun C hC => ?_
    have e := sizA_eq A
    refine walk2 ?_
    refine aw_loopB [1, 12, 13] [0] (fun p : Nat × Nat => [(3, .lit (.int .i64 p.2)), (14, .lit (.int .i64 p.1))]) (fun _ => []) 1
      (fun p => p.1 ≤ A.cells.length ∧ sizA A = sizCs (A.cells.drop p.1) p.2) (fun p => A.cells.length - p.1) (0, A.cells.length) ⟨Nat.zero_le _, e⟩ ?_
    rintro ⟨k, n⟩ ⟨hk, hE⟩
    simp only at hk hE
    dsimp only [List.cons_append, List.nil_append]
    by_cases hlt : k < A.cells.length
    · obtain ⟨c, hc⟩ : ∃ c, A.cells[k]? = some c := ⟨_, List.getElem?_eq_getElem hlt⟩
      have hck := cell_at hc
      have hcm := List.mem_of_getElem? hc
      have hcok := okCs_mem.1 a4 c hcm
      obtain ⟨b1, b2, b3, b4, b5⟩ := hcok.parts
      have lin := ins_len c
      rw [sizCs_at hc] at hE
      have ht : SizeOf.sizeOf c < SizeOf.sizeOf A := Nat.lt_trans (cell_size hcm) A.size
      refine walk2 ?_
      refine aw_loopB [1, 12, 13, 14, 19, 20] [0] (fun p : Nat × Nat => [(3, .lit (.int .i64 p.2)), (21, .lit (.int .i64 p.1))]) (fun _ => []) 2
        (fun p => p.1 ≤ c.ins.length ∧ sizA A = sizCs (A.cells.drop (k + 1)) (sizAs (c.ins.drop p.1) p.2)) (fun p => c.ins.length - p.1) (0, n) ⟨Nat.zero_le _, hE⟩ ?_
      rintro ⟨j, m⟩ ⟨hj, hF⟩
      simp only at hj hF
      dsimp only [List.cons_append, List.nil_append]
      by_cases hlj : j < c.ins.length
      · obtain ⟨x, hx⟩ : ∃ x, c.ins[j]? = some x := ⟨_, List.getElem?_eq_getElem hlj⟩
        have hxk := arr_at hx
        have hxm := List.mem_of_getElem? hx
        have hxok := okAs_mem.1 b5 x hxm
        have ht2 : SizeOf.sizeOf x < SizeOf.sizeOf A := Nat.lt_trans (arr_size hxm) (Nat.lt_trans c.size ht)
        rw [sizAs_at hx] at hF
        have g1 := sizCs_ge (A.cells.drop (k + 1)) (sizAs (c.ins.drop (j + 1)) (m + sizA x))
        have g2 := sizAs_ge (c.ins.drop (j + 1)) (m + sizA x)
        have c4 := size_a x hxok (by omega)
        refine walk2 ?_
        exact ⟨(j + 1, m + sizA x), by simp only; omega, ⟨by simp only; omega, hF⟩, wkR hC.m []⟩
      · rw [show c.ins.drop j = [] from List.drop_eq_nil_of_le (by omega), sizAs] at hF
        refine walk2 ?_
        exact ⟨(k + 1, m), by simp only; omega, ⟨by simp only; omega, hF⟩, wkR hC.m []⟩
    · rw [List.drop_eq_nil_of_le (by omega), sizCs] at hE
      rw [hE]
      refine walk2 ?_
      exact fin
  termination_by A => SizeOf.sizeOf A

set_option maxHeartbeats 1000000 in
theorem rsize_a : ∀ (A : Arr), okA A → sizA A ≤ 1000000 → ACalls Try.prog 52 [.agg (arrV A)] (.lit (.int .i64 (sizA A : Nat)))
  | A, hA, hS => by
    have hB : maxB = 1000000000 := rfl
    have lcs := cells_len A
    obtain ⟨a1, a2, a3, a4⟩ := hA.parts
    refine acalls_of code_scrimref08_Size (by simp [fn_scrimref08_Size]) fun C hC => ?_
    have e := sizA_eq A
    refine walk2 ?_
    refine aw_loopB [1] [0] (fun p : Nat × Nat => [(3, .lit (.int .i64 p.2)), (4, .lit (.int .i64 p.1))]) (fun _ => []) 1
      (fun p => p.1 ≤ A.cells.length ∧ sizA A = sizCs (A.cells.drop p.1) p.2) (fun p => A.cells.length - p.1) (0, A.cells.length) ⟨Nat.zero_le _, e⟩ ?_
    rintro ⟨k, n⟩ ⟨hk, hE⟩
    simp only at hk hE
    dsimp only [List.cons_append, List.nil_append]
    by_cases hlt : k < A.cells.length
    · obtain ⟨c, hc⟩ : ∃ c, A.cells[k]? = some c := ⟨_, List.getElem?_eq_getElem hlt⟩
      have hck := cell_at hc
      have hcm := List.mem_of_getElem? hc
      have hcok := okCs_mem.1 a4 c hcm
      obtain ⟨b1, b2, b3, b4, b5⟩ := hcok.parts
      have lin := ins_len c
      rw [sizCs_at hc] at hE
      have ht : SizeOf.sizeOf c < SizeOf.sizeOf A := Nat.lt_trans (cell_size hcm) A.size
      refine walk2 ?_
      refine aw_loopB [1, 4] [0] (fun p : Nat × Nat => [(3, .lit (.int .i64 p.2)), (5, .lit (.int .i64 p.1))]) (fun _ => []) 1
        (fun p => p.1 ≤ c.ins.length ∧ sizA A = sizCs (A.cells.drop (k + 1)) (sizAs (c.ins.drop p.1) p.2)) (fun p => c.ins.length - p.1) (0, n) ⟨Nat.zero_le _, hE⟩ ?_
      rintro ⟨j, m⟩ ⟨hj, hF⟩
      simp only at hj hF
      dsimp only [List.cons_append, List.nil_append]
      by_cases hlj : j < c.ins.length
      · obtain ⟨x, hx⟩ : ∃ x, c.ins[j]? = some x := ⟨_, List.getElem?_eq_getElem hlj⟩
        have hxk := arr_at hx
        have hxm := List.mem_of_getElem? hx
        have hxok := okAs_mem.1 b5 x hxm
        have ht2 : SizeOf.sizeOf x < SizeOf.sizeOf A := Nat.lt_trans (arr_size hxm) (Nat.lt_trans c.size ht)
        rw [sizAs_at hx] at hF
        have g1 := sizCs_ge (A.cells.drop (k + 1)) (sizAs (c.ins.drop (j + 1)) (m + sizA x))
        have g2 := sizAs_ge (c.ins.drop (j + 1)) (m + sizA x)
        have c4 := rsize_a x hxok (by omega)
        refine walk2 ?_
        exact ⟨(j + 1, m + sizA x), by simp only; omega, ⟨by simp only; omega, hF⟩, wkR hC.m []⟩
      · rw [show c.ins.drop j = [] from List.drop_eq_nil_of_le (by omega), sizAs] at hF
        refine walk2 ?_
        exact ⟨(k + 1, m), by simp only; omega, ⟨by simp only; omega, hF⟩, wkR hC.m []⟩
    · rw [List.drop_eq_nil_of_le (by omega), sizCs] at hE
      rw [hE]
      refine walk2 ?_
      exact fin
  termination_by A => SizeOf.sizeOf A
end Go.Proofs.Ytmbigpjokpdnkaa
