/- scrimref09.Alike: label by label, without hiding. -/
import Derived.Test.YtmbigpjokpdnkaaAbs7
import Derived.Test.YtmbigpjokpdnkaaViewL
namespace Go.Proofs.Ytmbigpjokpdnkaa
set_option linter.unusedVariables false
open Go.RowKit

theorem rflows_at (a b : Nat) (ha : a < 18446744073709551616) (hb : b < 18446744073709551616) {x : Bool} (h : flowsN a b = x) : ACalls Try.prog 8 [labV a, labV b] (.lit (.bool x)) := h ▸ rflows_a a b ha hb
theorem rints_at (xs ys : List Int) {x : Bool} (h : intsP xs ys = x) : ACalls Try.prog 35 [.sl 1 (intsA .i64 xs), .sl 1 (intsA .i64 ys)] (.lit (.bool x)) := h ▸ ints_a xs ys
theorem rnum_at (m n : Num) {x : Bool} (h : numP m n = x) : ACalls Try.prog 50 [.agg (numV m), .agg (numV n)] (.lit (.bool x)) := h ▸ rnum_a m n

theorem alikeA_eq (o : Nat) (A B : Arr) : alikeA o A B = if flowsN A.s o = true ∧ flowsN B.s o = true then (A.s == B.s) && (intsP A.shape B.shape && alikeCs o A.cells B.cells) else flowsN A.s o == flowsN B.s o := by cases A; cases B; unfold alikeA; rfl
theorem alikeC_eq (o : Nat) (c d : Cell) : alikeC o c d = if flowsN c.l o = true ∧ flowsN d.l o = true then (c.l == d.l) && ((c.kind == d.kind) && ((c.c == d.c) && (numP c.n d.n && alikeAs o c.ins d.ins))) else flowsN c.l o == flowsN d.l o := by cases c; cases d; unfold alikeC; rfl
theorem alikeCs_drop (o : Nat) {cs ds : List Cell} {k : Nat} {c d : Cell} (hc : cs[k]? = some c) (hd : ds[k]? = some d) : alikeCs o (cs.drop k) (ds.drop k) = (alikeC o c d && alikeCs o (cs.drop (k + 1)) (ds.drop (k + 1))) := by
  obtain ⟨h1, rfl⟩ := List.getElem?_eq_some_iff.1 hc
  obtain ⟨h2, rfl⟩ := List.getElem?_eq_some_iff.1 hd
  rw [List.drop_eq_getElem_cons h1, List.drop_eq_getElem_cons h2, alikeCs]
theorem alikeAs_drop (o : Nat) {cs ds : List Arr} {k : Nat} {c d : Arr} (hc : cs[k]? = some c) (hd : ds[k]? = some d) : alikeAs o (cs.drop k) (ds.drop k) = (alikeA o c d && alikeAs o (cs.drop (k + 1)) (ds.drop (k + 1))) := by
  obtain ⟨h1, rfl⟩ := List.getElem?_eq_some_iff.1 hc
  obtain ⟨h2, rfl⟩ := List.getElem?_eq_some_iff.1 hd
  rw [List.drop_eq_getElem_cons h1, List.drop_eq_getElem_cons h2, alikeAs]

set_option maxHeartbeats 4000000 in
mutual
theorem refAlike_a (o : Nat) (ho : o < 18446744073709551616) : ∀ (A B : Arr), arrOK A → arrOK B → ACalls Try.prog 11 [.agg (arrV A), .agg (arrV B), labV o] (.lit (.bool (alikeA o A B)))
  | A, B, hA, hB => by
    have hr : reachBytes = 140737488351232 := rfl
    have la := cells_len A
    have lb := cells_len B
    obtain ⟨a1, a2, a3, a4⟩ := hA.parts
    obtain ⟨b1, b2, b3, b4⟩ := hB.parts
    refine acalls_of code_scrimref09_Alike (by simp [fn_scrimref09_Alike]) fun C hC => ?_
    rw [alikeA_eq]
    cases f1 : flowsN A.s o
    · have c1 := rflows_at A.s o a1 ho f1
      cases f2 : flowsN B.s o
      · have c2 := rflows_at B.s o b1 ho f2
        refine walk2 ?_
        exact ⟨_, _, rfl, rfl, Sub.refl _⟩
      · have c2 := rflows_at B.s o b1 ho f2
        refine walk2 ?_
        exact ⟨_, _, rfl, rfl, Sub.refl _⟩
    have c1 := rflows_at A.s o a1 ho f1
    cases f2 : flowsN B.s o
    · have c2 := rflows_at B.s o b1 ho f2
      refine walk2 ?_
      exact ⟨_, _, rfl, rfl, Sub.refl _⟩
    have c2 := rflows_at B.s o b1 ho f2
    rw [if_pos ⟨rfl, rfl⟩]
    by_cases h1 : A.s = B.s
    · rw [h1, beq_self_eq_true, Bool.true_and]
      cases h2 : intsP A.shape B.shape
      · have c3 := rints_at A.shape B.shape h2
        refine walk2 ?_
        exact ⟨_, _, rfl, rfl, Sub.refl _⟩
      have c3 := rints_at A.shape B.shape h2
      by_cases h3 : A.cells.length = B.cells.length
      · rw [Bool.true_and]
        refine walk2 ?_
        refine aw_loopA [2, 3, 4, 6] [0, 1] (fun k : Nat => [(7, .lit (.int .i64 k))]) (fun _ => []) 2
          (fun k => k ≤ A.cells.length ∧ alikeCs o A.cells B.cells = alikeCs o (A.cells.drop k) (B.cells.drop k)) (fun k => A.cells.length - k) 0 rfl rfl (wkR hC.m []) ⟨Nat.zero_le _, rfl⟩ ?_
        rintro k ⟨hk, hE⟩
        by_cases hlt : k < A.cells.length
        · obtain ⟨c, hc⟩ : ∃ c, A.cells[k]? = some c := ⟨_, List.getElem?_eq_getElem hlt⟩
          obtain ⟨d, hd⟩ : ∃ d, B.cells[k]? = some d := ⟨_, List.getElem?_eq_getElem (by omega)⟩
          have hck := cell_at hc
          have hdk := cell_at hd
          have hcm := List.mem_of_getElem? hc
          have ht : SizeOf.sizeOf c < SizeOf.sizeOf A := Nat.lt_trans (cell_size hcm) A.size
          have c4 := refCells_a o ho c d (cellsOK_mem.1 a4 c hcm) (cellsOK_mem.1 b4 d (List.mem_of_getElem? hd))
          rw [alikeCs_drop o hc hd] at hE
          cases h4 : alikeC o c d
          · rw [h4] at c4
            rw [h4, Bool.false_and] at hE
            rw [hE]
            refine walk2 ?_
            exact ⟨_, _, rfl, rfl, Sub.refl _⟩
          · rw [h4] at c4
            rw [h4, Bool.true_and] at hE
            refine walk2 ?_
            exact ⟨k + 1, by omega, ⟨by omega, hE⟩, wkR hC.m []⟩
        · rw [List.drop_eq_nil_of_le (by omega), List.drop_eq_nil_of_le (by omega), alikeCs] at hE
          rw [hE]
          refine walk2 ?_
          exact ⟨_, _, rfl, rfl, Sub.refl _⟩
      · rw [alikeCs_len _ _ _ h3, Bool.and_false]
        refine walk2 ?_
        exact ⟨_, _, rfl, rfl, Sub.refl _⟩
    · rw [nat_beq_ne h1, Bool.false_and]
      refine walk2 ?_
      exact ⟨_, _, rfl, rfl, Sub.refl _⟩
  termination_by A => SizeOf.sizeOf A

theorem refCells_a (o : Nat) (ho : o < 18446744073709551616) : ∀ (A B : Cell), cellOK A → cellOK B → ACalls Try.prog 36 [.agg (cellV A), .agg (cellV B), labV o] (.lit (.bool (alikeC o A B)))
  | A, B, hA, hB => by
    have hr : reachBytes = 140737488351232 := rfl
    have la := ins_len A
    have lb := ins_len B
    obtain ⟨a1, a2, a3, a4⟩ := hA.parts
    obtain ⟨b1, b2, b3, b4⟩ := hB.parts
    refine acalls_of code_scrimref09_cells (by simp [fn_scrimref09_cells]) fun C hC => ?_
    rw [alikeC_eq]
    cases f1 : flowsN A.l o
    · have c1 := rflows_at A.l o a1 ho f1
      cases f2 : flowsN B.l o
      · have c2 := rflows_at B.l o b1 ho f2
        refine walk2 ?_
        exact ⟨_, _, rfl, rfl, Sub.refl _⟩
      · have c2 := rflows_at B.l o b1 ho f2
        refine walk2 ?_
        exact ⟨_, _, rfl, rfl, Sub.refl _⟩
    have c1 := rflows_at A.l o a1 ho f1
    cases f2 : flowsN B.l o
    · have c2 := rflows_at B.l o b1 ho f2
      refine walk2 ?_
      exact ⟨_, _, rfl, rfl, Sub.refl _⟩
    have c2 := rflows_at B.l o b1 ho f2
    rw [if_pos ⟨rfl, rfl⟩]
    by_cases h1 : A.l = B.l
    · by_cases h5 : A.kind = B.kind
      · by_cases h6 : A.c = B.c
        · rw [h1, beq_self_eq_true, Bool.true_and, h5, beq_self_eq_true, Bool.true_and, h6, beq_self_eq_true, Bool.true_and]
          cases h2 : numP A.n B.n
          · have c3 := rnum_at A.n B.n h2
            refine walk2 ?_
            exact ⟨_, _, rfl, rfl, Sub.refl _⟩
          have c3 := rnum_at A.n B.n h2
          by_cases h3 : A.ins.length = B.ins.length
          · rw [Bool.true_and]
            refine walk2 ?_
            refine aw_loopA [2, 3, 4, 6] [0, 1] (fun k : Nat => [(7, .lit (.int .i64 k))]) (fun _ => []) 2
              (fun k => k ≤ A.ins.length ∧ alikeAs o A.ins B.ins = alikeAs o (A.ins.drop k) (B.ins.drop k)) (fun k => A.ins.length - k) 0 rfl rfl (wkR hC.m []) ⟨Nat.zero_le _, rfl⟩ ?_
            rintro k ⟨hk, hE⟩
            by_cases hlt : k < A.ins.length
            · obtain ⟨c, hc⟩ : ∃ c, A.ins[k]? = some c := ⟨_, List.getElem?_eq_getElem hlt⟩
              obtain ⟨d, hd⟩ : ∃ d, B.ins[k]? = some d := ⟨_, List.getElem?_eq_getElem (by omega)⟩
              have hck := arr_at hc
              have hdk := arr_at hd
              have hcm := List.mem_of_getElem? hc
              have ht : SizeOf.sizeOf c < SizeOf.sizeOf A := Nat.lt_trans (arr_size hcm) A.size
              have c4 := refAlike_a o ho c d (arrsOK_mem.1 a4 c hcm) (arrsOK_mem.1 b4 d (List.mem_of_getElem? hd))
              rw [alikeAs_drop o hc hd] at hE
              cases h4 : alikeA o c d
              · rw [h4] at c4
                rw [h4, Bool.false_and] at hE
                rw [hE]
                refine walk2 ?_
                exact ⟨_, _, rfl, rfl, Sub.refl _⟩
              · rw [h4] at c4
                rw [h4, Bool.true_and] at hE
                refine walk2 ?_
                exact ⟨k + 1, by omega, ⟨by omega, hE⟩, wkR hC.m []⟩
            · rw [List.drop_eq_nil_of_le (by omega), List.drop_eq_nil_of_le (by omega), alikeAs] at hE
              rw [hE]
              refine walk2 ?_
              exact ⟨_, _, rfl, rfl, Sub.refl _⟩
          · rw [alikeAs_len _ _ _ h3, Bool.and_false]
            refine walk2 ?_
            exact ⟨_, _, rfl, rfl, Sub.refl _⟩
        · rw [h1, h5, int_beq_ne h6, beq_self_eq_true, beq_self_eq_true]
          refine walk2 ?_
          exact ⟨_, _, rfl, rfl, Sub.refl _⟩
      · rw [h1, int_beq_ne h5, beq_self_eq_true]
        refine walk2 ?_
        exact ⟨_, _, rfl, rfl, Sub.refl _⟩
    · rw [nat_beq_ne h1, Bool.false_and]
      refine walk2 ?_
      exact ⟨_, _, rfl, rfl, Sub.refl _⟩
  termination_by A => SizeOf.sizeOf A
end
theorem refAlike_at (A B : Arr) (o : Nat) (ho : o < 18446744073709551616) (hA : arrOK A) (hB : arrOK B) {b : Bool} (h : alikeA o A B = b) : ACalls Try.prog 11 [.agg (arrV A), .agg (arrV B), labV o] (.lit (.bool b)) := h ▸ refAlike_a o ho A B hA hB

end Go.Proofs.Ytmbigpjokpdnkaa
