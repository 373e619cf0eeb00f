/- When arrays are the same. -/
import Derived.Test.YtkgnnnehmnoleaaFewP
namespace Go.Proofs.Ytkgnnnehmnoleaa
set_option linter.unusedVariables false
open Go.RowKit

theorem sameCs_drop {cs ds : List Cell} (hl : cs.length = ds.length) {k : Nat} {c d : Cell} (hc : cs[k]? = some c) (hd : ds[k]? = some d) : sameCs (cs.drop k) (ds.drop k) = (sameC c d && sameCs (cs.drop (k + 1)) (ds.drop (k + 1))) := by
  obtain ⟨h1, rfl⟩ := List.getElem?_eq_some_iff.1 hc
  obtain ⟨h2, rfl⟩ := List.getElem?_eq_some_iff.1 hd
  rw [List.drop_eq_getElem_cons h1, List.drop_eq_getElem_cons h2, sameCs]
theorem sameAs_drop {cs ds : List Arr} (hl : cs.length = ds.length) {k : Nat} {c d : Arr} (hc : cs[k]? = some c) (hd : ds[k]? = some d) : sameAs (cs.drop k) (ds.drop k) = (sameA c d && sameAs (cs.drop (k + 1)) (ds.drop (k + 1))) := by
  obtain ⟨h1, rfl⟩ := List.getElem?_eq_some_iff.1 hc
  obtain ⟨h2, rfl⟩ := List.getElem?_eq_some_iff.1 hd
  rw [List.drop_eq_getElem_cons h1, List.drop_eq_getElem_cons h2, sameAs]

theorem sameA_eq (A B : Arr) : sameA A B = ((A.s == B.s) && (intsP A.shape B.shape && sameCs A.cells B.cells)) := by cases A; cases B; simp only [sameA, Arr.s, Arr.shape, Arr.cells]
theorem sameC_eq (c d : Cell) : sameC c d = ((c.l == d.l) && ((c.kind == d.kind) && ((c.c == d.c) && (numP c.n d.n && sameAs c.ins d.ins)))) := by cases c; cases d; simp only [sameC, Cell.l, Cell.kind, Cell.c, Cell.n, Cell.ins]

theorem cell_size {cs : List Cell} {c : Cell} (h : c ∈ cs) : SizeOf.sizeOf c < SizeOf.sizeOf cs := List.sizeOf_lt_of_mem h
theorem arr_size {cs : List Arr} {c : Arr} (h : c ∈ cs) : SizeOf.sizeOf c < SizeOf.sizeOf cs := List.sizeOf_lt_of_mem h
theorem Arr.size (A : Arr) : SizeOf.sizeOf A.cells < SizeOf.sizeOf A := by cases A; simp [Arr.cells]; omega
theorem Cell.size (c : Cell) : SizeOf.sizeOf c.ins < SizeOf.sizeOf c := by cases c; simp [Cell.ins]; omega

theorem nat_beq_ne {a b : Nat} (h : ¬ a = b) : (a == b) = false := by simpa using h
theorem int_beq_ne {a b : Int} (h : ¬ a = b) : (a == b) = false := by simpa using h

mutual
theorem same_a : ∀ (A B : Arr), arrOK A → arrOK B → ACalls Try.prog 11 [.agg (arrV A), .agg (arrV B)] (.lit (.bool (sameA A B)))
  | A, B, hA, hB => by
    have hr : reachBytes = 140737488351232 := rfl
    have la := cells_len A
    have lb := cells_len B
    obtain ⟨a1, a2, a3, a4⟩ := hA.parts
    obtain ⟨b1, b2, b3, b4⟩ := hB.parts
    refine acalls_of code_scrimref08_Same (by simp [fn_scrimref08_Same]) fun C hC => ?_
    rw [sameA_eq]
    by_cases h1 : A.s = B.s
    · rw [h1, beq_self_eq_true, Bool.true_and]
      refine walk ?_
      refine aw_reg (rrun ?_)
      refine r_call (ints_a A.shape B.shape) ?_
      cases h2 : intsP A.shape B.shape
      · refine rrun ?_
        refine rg_nil ⟨rfl, ?_⟩
        refine walk ?_
        exact ⟨_, _, rfl, rfl, Sub.refl _⟩
      · rw [Bool.true_and]
        by_cases h3 : A.cells.length = B.cells.length
        · refine rrun ?_
          refine rg_nil ⟨rfl, ?_⟩
          refine walk ?_
          refine aw_loop (X := Nat) (fun k => ⟨[(2, .optr 0 0 0), (3, .optr 1 0 0), (4, .lit (.bool false)), (5, .lit (.int .i64 k))], [(0, some ⟨false, false, 26, 3, [arrV A]⟩), (1, some ⟨false, false, 26, 3, [arrV B]⟩)], 2⟩)
            (fun k => k ≤ A.cells.length ∧ sameCs A.cells B.cells = sameCs (A.cells.drop k) (B.cells.drop k)) (fun k => A.cells.length - k) 0 (wk hC [(0, 0), (1, 1)] [2, 3, 4, 5] 2) ⟨Nat.zero_le _, rfl⟩ ?_
          rintro k ⟨hk, hE⟩
          by_cases hlt : k < A.cells.length
          · obtain ⟨c, hc⟩ : ∃ c, A.cells[k]? = some c := ⟨_, List.getElem?_eq_getElem hlt⟩
            obtain ⟨d, hd⟩ : ∃ d, B.cells[k]? = some d := ⟨_, List.getElem?_eq_getElem (by omega)⟩
            have hck := cell_at hc
            have hdk := cell_at hd
            have hcm := List.mem_of_getElem? hc
            have hcok := cellsOK_mem.1 a4 c hcm
            have hdok := cellsOK_mem.1 b4 d (List.mem_of_getElem? hd)
            rw [sameCs_drop h3 hc hd] at hE
            have ht : SizeOf.sizeOf c < SizeOf.sizeOf A := Nat.lt_trans (cell_size hcm) A.size
            refine walk ?_
            refine aw_reg (rrun ?_)
            refine r_call (sameCell_a c d hcok hdok) ?_
            cases h4 : sameC c d
            · rw [h4, Bool.false_and] at hE
              rw [hE]
              refine rrun ?_
              refine rg_nil ⟨rfl, ?_⟩
              refine walk ?_
              exact ⟨_, _, rfl, rfl, Sub.refl _⟩
            · rw [h4, Bool.true_and] at hE
              refine rrun ?_
              refine rg_nil ⟨rfl, ?_⟩
              refine walk ?_
              exact ⟨k + 1, by omega, ⟨by omega, hE⟩, wk hC [(0, 0), (1, 1)] [2, 3, 4, 5] 2⟩
          · rw [List.drop_eq_nil_of_le (by omega), List.drop_eq_nil_of_le (by omega), sameCs] at hE
            rw [hE]
            refine walk ?_
            exact ⟨_, _, rfl, rfl, Sub.refl _⟩
        · rw [sameCs_len _ _ h3]
          refine rrun ?_
          refine rg_nil ⟨rfl, ?_⟩
          refine walk ?_
          exact ⟨_, _, rfl, rfl, Sub.refl _⟩
    · rw [nat_beq_ne h1, Bool.false_and]
      refine walk ?_
      exact ⟨_, _, rfl, rfl, Sub.refl _⟩
  termination_by A => SizeOf.sizeOf A

theorem sameCell_a : ∀ (A B : Cell), cellOK A → cellOK B → ACalls Try.prog 13 [.agg (cellV A), .agg (cellV B)] (.lit (.bool (sameC A B)))
  | A, B, hA, hB => by
    have hr : reachBytes = 140737488351232 := rfl
    have la := ins_len A
    have lb := ins_len B
    obtain ⟨a1, a2, a3, a4⟩ := hA.parts
    obtain ⟨b1, b2, b3, b4⟩ := hB.parts
    refine acalls_of code_scrimref08_SameCell (by simp [fn_scrimref08_SameCell]) fun C hC => ?_
    rw [sameC_eq]
    by_cases h1 : A.l = B.l
    · rw [h1, beq_self_eq_true, Bool.true_and]
      by_cases h5 : A.kind = B.kind
      · rw [h5, beq_self_eq_true, Bool.true_and]
        by_cases h6 : A.c = B.c
        · rw [h6, beq_self_eq_true, Bool.true_and]
          refine walk ?_
          refine aw_reg (rrun ?_)
          refine r_call (rnum_a A.n B.n) ?_
          cases h2 : numP A.n B.n
          · refine rrun ?_
            refine rg_nil ⟨rfl, ?_⟩
            refine walk ?_
            exact ⟨_, _, rfl, rfl, Sub.refl _⟩
          · rw [Bool.true_and]
            by_cases h3 : A.ins.length = B.ins.length
            · refine rrun ?_
              refine rg_nil ⟨rfl, ?_⟩
              refine walk ?_
              refine aw_loop (X := Nat) (fun k => ⟨[(2, .optr 0 0 0), (3, .optr 1 0 0), (4, .lit (.bool false)), (5, .lit (.int .i64 k))], [(0, some ⟨false, false, 32, 7, [cellV A]⟩), (1, some ⟨false, false, 32, 7, [cellV B]⟩)], 2⟩)
                (fun k => k ≤ A.ins.length ∧ sameAs A.ins B.ins = sameAs (A.ins.drop k) (B.ins.drop k)) (fun k => A.ins.length - k) 0 (wk hC [(0, 0), (1, 1)] [2, 3, 4, 5] 2) ⟨Nat.zero_le _, rfl⟩ ?_
              rintro k ⟨hk, hE⟩
              by_cases hlt : k < A.ins.length
              · obtain ⟨c, hc⟩ : ∃ c, A.ins[k]? = some c := ⟨_, List.getElem?_eq_getElem hlt⟩
                obtain ⟨d, hd⟩ : ∃ d, B.ins[k]? = some d := ⟨_, List.getElem?_eq_getElem (by omega)⟩
                have hck := arr_at hc
                have hdk := arr_at hd
                have hcm := List.mem_of_getElem? hc
                have hcok := arrsOK_mem.1 a4 c hcm
                have hdok := arrsOK_mem.1 b4 d (List.mem_of_getElem? hd)
                rw [sameAs_drop h3 hc hd] at hE
                have ht : SizeOf.sizeOf c < SizeOf.sizeOf A := Nat.lt_trans (arr_size hcm) A.size
                refine walk ?_
                refine aw_reg (rrun ?_)
                refine r_call (same_a c d hcok hdok) ?_
                cases h4 : sameA c d
                · rw [h4, Bool.false_and] at hE
                  rw [hE]
                  refine rrun ?_
                  refine rg_nil ⟨rfl, ?_⟩
                  refine walk ?_
                  exact ⟨_, _, rfl, rfl, Sub.refl _⟩
                · rw [h4, Bool.true_and] at hE
                  refine rrun ?_
                  refine rg_nil ⟨rfl, ?_⟩
                  refine walk ?_
                  exact ⟨k + 1, by omega, ⟨by omega, hE⟩, wk hC [(0, 0), (1, 1)] [2, 3, 4, 5] 2⟩
              · rw [List.drop_eq_nil_of_le (by omega), List.drop_eq_nil_of_le (by omega), sameAs] at hE
                rw [hE]
                refine walk ?_
                exact ⟨_, _, rfl, rfl, Sub.refl _⟩
            · rw [sameAs_len _ _ h3]
              refine rrun ?_
              refine rg_nil ⟨rfl, ?_⟩
              refine walk ?_
              exact ⟨_, _, rfl, rfl, Sub.refl _⟩
        · rw [int_beq_ne h6, Bool.false_and]
          refine walk ?_
          exact ⟨_, _, rfl, rfl, Sub.refl _⟩
      · rw [int_beq_ne h5, Bool.false_and]
        refine walk ?_
        exact ⟨_, _, rfl, rfl, Sub.refl _⟩
    · rw [nat_beq_ne h1, Bool.false_and]
      refine walk ?_
      exact ⟨_, _, rfl, rfl, Sub.refl _⟩
  termination_by A => SizeOf.sizeOf A
end
end Go.Proofs.Ytkgnnnehmnoleaa
