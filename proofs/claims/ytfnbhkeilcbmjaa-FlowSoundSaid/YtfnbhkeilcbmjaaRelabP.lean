/- array.relabel, Cover, Erase. -/
import Derived.Test.YtfnbhkeilcbmjaaAbs7
import Derived.Test.YtfnbhkeilcbmjaaHideP
namespace Go.Proofs.Ytfnbhkeilcbmjaa
set_option linter.unusedVariables false
open Go.RowKit

/-- raised by a label -/
def covG (l a : Nat) : Nat := a ||| l

mutual
def relabA (g : Nat → Nat) : Arr → Arr
  | .mk s sh cs => .mk (g s) sh (relabCs g cs)
def relabCs (g : Nat → Nat) : List Cell → List Cell
  | [] => []
  | c :: cs => relabC g c :: relabCs g cs
def relabC (g : Nat → Nat) : Cell → Cell
  | .mk l k n ch ins => .mk (g l) k n ch (relabAs g ins)
def relabAs (g : Nat → Nat) : List Arr → List Arr
  | [] => []
  | a :: xs => relabA g a :: relabAs g xs
end
theorem relabCs_map (g : Nat → Nat) : ∀ cs : List Cell, relabCs g cs = cs.map (relabC g)
  | [] => rfl
  | c :: cs => by rw [relabCs, relabCs_map g cs]; rfl
theorem relabAs_map (g : Nat → Nat) : ∀ cs : List Arr, relabAs g cs = cs.map (relabA g)
  | [] => rfl
  | c :: cs => by rw [relabAs, relabAs_map g cs]; rfl
theorem relabA_eq (g : Nat → Nat) (A : Arr) : relabA g A = .mk (g A.s) A.shape (A.cells.map (relabC g)) := by cases A; rw [relabA, relabCs_map]; rfl
theorem relabC_eq (g : Nat → Nat) (c : Cell) : relabC g c = .mk (g c.l) c.kind c.n c.c (c.ins.map (relabA g)) := by cases c; rw [relabC, relabAs_map]; rfl
def relV (g : Nat → Nat) (c : Cell) : List AV := cellV (.mk (g c.l) c.kind c.n c.c (c.ins.map (relabA g)))
def relW (g : Nat → Nat) (a : Arr) : List AV := arrV (relabA g a)
theorem arrR_relab (g : Nat → Nat) (xs : List Arr) : xs.map (relW g) = (xs.map (relabA g)).map arrR := by
  rw [List.map_map]; exact List.map_congr_left (fun a _ => (arrR_eq _).symm)
theorem cellR_relab (g : Nat → Nat) (xs : List Cell) : xs.map (relV g) = (xs.map (relabC g)).map cellR := by
  rw [List.map_map]; exact List.map_congr_left (fun a _ => by show cellV (.mk (g a.l) a.kind a.n a.c (a.ins.map (relabA g))) = cellR (relabC g a); rw [← relabC_eq]; exact (cellR_eq _).symm)

theorem Cover1_a (l : Nat) (hl : l < 18446744073709551616) (a : Nat) (ha : a < 18446744073709551616) : ACalls Try.prog 53 [labV a, .ep 1 [[labV l]] 0 0] (labV (a ||| l)) := by
  have c1 := join_a a l ha hl
  refine acalls_of code_array_Cover_1 (by simp [fn_array_Cover_1]) fun C hC => ?_
  refine walk2 ?_
  exact ⟨_, _, rfl, rfl, Sub.refl _⟩

set_option maxHeartbeats 4000000 in
theorem relabC_a (l : Nat) (hl : l < 18446744073709551616) : ∀ (A : Arr), okA A → ACalls Try.prog 52 [.agg (arrV A), .fn 53 [] [.ep 1 [[labV l]] 0 0]] (.agg (arrV (relabA (covG l) A)))
  | A, hA => by
    have hB : maxB = 1000000000 := rfl
    have lcs := cells_len A
    have lsh := intsA_len .i64 A.shape
    obtain ⟨a1, a2, a3, a4⟩ := hA.parts
    refine acalls_of code_array_relabel (by simp [fn_array_relabel]) fun C hC => ?_
    have c1 := Cover1_a l hl A.s a1
    have c2 := cloneInt_a (intsA .i64 A.shape) (by omega)
    rw [relabA_eq]
    refine walk2 ?_
    refine aw_loopB [1, 2, 4, 5, 24, 25] [0, 1, 3] (fun k : Nat => [(26, .lit (.int .i64 k))]) (fun k => [(2, some ⟨true, false, 71, 7, rowK (relV (covG l)) cellZ A.cells k⟩)]) 4
      (fun k => k ≤ A.cells.length) (fun k => A.cells.length - k) 0 (Nat.zero_le _) ?_ (hh := by rw [← rowK_zero]; rfl)
    intro k hk
    dsimp only [List.cons_append, List.nil_append]
    by_cases hlt : k < A.cells.length
    · obtain ⟨c, hc⟩ : ∃ c, A.cells[k]? = some c := ⟨_, List.getElem?_eq_getElem hlt⟩
      have hck := cell_at hc
      have hcm := List.mem_of_getElem? hc
      have hcok := okCs_mem.1 a4 c hcm
      obtain ⟨b1, b2, b3, b4, b5⟩ := hcok.parts
      have lin := ins_len c
      have c3 := Cover1_a l hl c.l b1
      have hrl := rowK_len (relV (covG l)) cellZ A.cells k hk
      have hrg := rowK_get (relV (covG l)) cellZ A.cells k hlt
      have hrs := rowK_set (relV (covG l)) cellZ A.cells k c hc
      have ht : SizeOf.sizeOf c < SizeOf.sizeOf A := Nat.lt_trans (cell_size hcm) A.size
      refine walk2 ?_
      refine aw_nil 8 43 3 rfl ?_
      refine aw_loopB [1, 2, 4, 5, 24, 25, 26, 6, 7, 37, 38] [0, 1, 2, 3, 4] (fun j : Nat => [(39, .lit (.int .i64 j)), (8, .own 5)]) (fun j => [(5, some ⟨true, false, 43, 3, mapK (relW (covG l)) c.ins j⟩)]) 6
        (fun j => j ≤ c.ins.length) (fun j => c.ins.length - j) 0 (Nat.zero_le _) ?_
      intro j hj
      dsimp only [List.cons_append, List.nil_append]
      by_cases hlj : j < c.ins.length
      · obtain ⟨x, hx⟩ : ∃ x, c.ins[j]? = some x := ⟨_, List.getElem?_eq_getElem hlj⟩
        have hxk := arr_at hx
        have hxm := List.mem_of_getElem? hx
        have hxok := okAs_mem.1 b5 x hxm
        have ht2 : SizeOf.sizeOf x < SizeOf.sizeOf A := Nat.lt_trans (arr_size hxm) (Nat.lt_trans c.size ht)
        have c4 := relabC_a l hl x hxok
        have hms := mapK_step (relW (covG l)) c.ins j x hx
        have hml := mapK_len (relW (covG l)) c.ins j
        refine walk2 ?_
        exact ⟨j + 1, by omega, by omega, wkR hC.m [(5, 8)] (by rw [← hms]; rfl)⟩
      · have hme := mapK_end (relW (covG l)) c.ins j hlj
        rw [hme, arrR_relab]
        refine aw_freeze 5 rfl ?_
        refine walk2 ?_
        exact ⟨k + 1, by omega, by omega, wkR hC.m [] (by rw [← hrs]; rfl)⟩
    · have hre := rowK_end (relV (covG l)) cellZ A.cells k hlt
      rw [hre, cellR_relab]
      refine walk2 ?_
      exact ⟨_, _, rfl, rfl, Sub.refl _⟩
  termination_by A => SizeOf.sizeOf A

theorem cover_a (A : Arr) (l : Nat) (hA : okA A) (hl : l < 18446744073709551616) : ACalls Try.prog 27 [.agg (arrV A), labV l] (.agg (arrV (relabA (covG l) A))) := by
  have c1 := relabC_a l hl A hA
  refine acalls_of code_array_Cover (by simp [fn_array_Cover]) fun C hC => ?_
  refine walk2 ?_
  exact ⟨_, _, rfl, rfl, Sub.refl _⟩

mutual
theorem okA.relab {g : Nat → Nat} (hg : ∀ a, a < 18446744073709551616 → g a < 18446744073709551616) : ∀ {A : Arr}, okA A → okA (relabA g A)
  | .mk s sh cs, h => by
    simp only [okA] at h
    simp only [relabA, okA, relabCs_map, List.length_map]
    exact ⟨hg _ h.1, h.2.1, h.2.2.1, by rw [← relabCs_map]; exact okCs.relab hg h.2.2.2⟩
theorem okCs.relab {g : Nat → Nat} (hg : ∀ a, a < 18446744073709551616 → g a < 18446744073709551616) : ∀ {A : List Cell}, okCs A → okCs (relabCs g A)
  | [], h => by simp [relabCs, okCs]
  | c :: cs, h => by
    simp only [okCs] at h
    simp only [relabCs, okCs]
    exact ⟨okC.relab hg h.1, okCs.relab hg h.2⟩
theorem okC.relab {g : Nat → Nat} (hg : ∀ a, a < 18446744073709551616 → g a < 18446744073709551616) : ∀ {A : Cell}, okC A → okC (relabC g A)
  | .mk l k n c ins, h => by
    simp only [okC] at h
    simp only [relabC, okC, relabAs_map, List.length_map]
    exact ⟨hg _ h.1, h.2.1, h.2.2.1, h.2.2.2.1, by rw [← relabAs_map]; exact okAs.relab hg h.2.2.2.2⟩
theorem okAs.relab {g : Nat → Nat} (hg : ∀ a, a < 18446744073709551616 → g a < 18446744073709551616) : ∀ {A : List Arr}, okAs A → okAs (relabAs g A)
  | [], h => by simp [relabAs, okAs]
  | c :: cs, h => by
    simp only [okAs] at h
    simp only [relabAs, okAs]
    exact ⟨okA.relab hg h.1, okAs.relab hg h.2⟩
end
end Go.Proofs.Ytfnbhkeilcbmjaa
