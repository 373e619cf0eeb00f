/- scrimref09.Alike: label by label, without hiding. -/
import Derived.Test.YtfnilbkahkbljaaAbs7
import Derived.Test.YtfnilbkahkbljaaViewL
import Derived.Test.YtfnilbkahkbljaaCodeJ
import Derived.Test.YtfnilbkahkbljaaCodeD
import Derived.Test.YtfnilbkahkbljaaShB
import Derived.Test.YtfnilbkahkbljaaOperQ
import Derived.Test.YtfnilbkahkbljaaLabA
import Derived.Test.YtfnilbkahkbljaaAbsZ
import Derived.Test.YtfnilbkahkbljaaArrG
import Derived.Test.YtfnilbkahkbljaaAbsN
import Derived.Test.YtfnilbkahkbljaaNumB
import Derived.Test.YtfnilbkahkbljaaSameP
import Derived.Test.YtfnilbkahkbljaaNumA
namespace Go.Proofs.Ytfnilbkahkbljaa
set_option linter.unusedVariables false
open Go.RowKit

theorem rflows_at (a b : Nat) (ha : a < 18446744073709551616) (hb : b < 18446744073709551616) {x : Bool} (h : flowsN a b = x) : ACalls Try.prog 83 [labV a, labV b] (.lit (.bool x)) := h ▸ rflows_a a b ha hb
theorem rints_at (xs ys : List Int) {x : Bool} (h : intsP xs ys = x) : ACalls Try.prog 19 [.sl 1 (intsA .i64 xs), .sl 1 (intsA .i64 ys)] (.lit (.bool x)) := h ▸ ints_a xs ys
theorem rnum_at (m n : Num) {x : Bool} (h : numP m n = x) : ACalls Try.prog 105 [.agg (numV m), .agg (numV n)] (.lit (.bool x)) := h ▸ rnum_a m n

theorem alikeA_eq (o : Nat) (A B : Arr) : alikeA o A B = if flowsN A.s o = true ∧ flowsN B.s o = true then (A.s == B.s) && (intsP A.shape B.shape && alikeCs o A.cells B.cells) else flowsN A.s o == flowsN B.s o := by cases A; cases B; unfold alikeA; rfl
theorem alikeC_eq (o : Nat) (c d : Cell) : alikeC o c d = if flowsN c.l o = true ∧ flowsN d.l o = true then (c.l == d.l) && ((c.kind == d.kind) && ((c.c == d.c) && (numP c.n d.n && alikeAs o c.ins d.ins))) else flowsN c.l o == flowsN d.l o := by cases c; cases d; unfold alikeC; rfl
theorem alikeCs_drop (o : Nat) {cs ds : List Cell} {k : Nat} {c d : Cell} (hc : cs[k]? = some c) (hd : ds[k]? = some d) : alikeCs o (cs.drop k) (ds.drop k) = (alikeC o c d && alikeCs o (cs.drop (k + 1)) (ds.drop (k + 1))) := by
  obtain ⟨h1, rfl⟩ := List.getElem?_eq_some_iff.1 hc
  obtain ⟨h2, rfl⟩ := List.getElem?_eq_some_iff.1 hd
  rw [List.drop_eq_getElem_cons h1, List.drop_eq_getElem_cons h2, alikeCs]
theorem alikeAs_drop (o : Nat) {cs ds : List Arr} {k : Nat} {c d : Arr} (hc : cs[k]? = some c) (hd : ds[k]? = some d) : alikeAs o (cs.drop k) (ds.drop k) = (alikeA o c d && alikeAs o (cs.drop (k + 1)) (ds.drop (k + 1))) := by
  obtain ⟨h1, rfl⟩ := List.getElem?_eq_some_iff.1 hc
  obtain ⟨h2, rfl⟩ := List.getElem?_eq_some_iff.1 hd
  rw [List.drop_eq_getElem_cons h1, List.drop_eq_getElem_cons h2, alikeAs]

set_option maxHeartbeats 4000000 in
mutual
theorem refAlike_a (o : Nat) (ho : o < 18446744073709551616) : ∀ (A B : Arr), arrOK A → arrOK B → ACalls Try.prog 37 [.agg (arrV A), .agg (arrV B), labV o] (.lit (.bool (alikeA o A B)))
  | A, B, hA, hB => by
    have hr : reachBytes = 140737488351232 := rfl
    have la := cells_len A
    have lb := cells_len B
    obtain ⟨a1, a2, a3, a4⟩ := hA.parts
    obtain ⟨b1, b2, b3, b4⟩ := hB.parts
    refine acalls_of code_scrimref09_Alike (by simp [fn_scrimref09_Alike]) fun C hC => ?_
    rw [alikeA_eq]
    cases f1 : flowsN A.s o
    · have c1 := rflows_at A.s o a1 ho f1
      cases f2 : flowsN B.s o
      · have c2 := rflows_at B.s o b1 ho f2
        refine walk2 ?_
        exact ⟨_, _, rfl, rfl, Sub.refl _⟩
      · have c2 := rflows_at B.s o b1 ho f2
        refine walk2 ?_
        exact ⟨_, _, rfl, rfl, Sub.refl _⟩
    have c1 := rflows_at A.s o a1 ho f1
    cases f2 : flowsN B.s o
    · have c2 := rflows_at B.s o b1 ho f2
      refine walk2 ?_
      exact ⟨_, _, rfl, rfl, Sub.refl _⟩
    have c2 := rflows_at B.s o b1 ho f2
    rw [if_pos ⟨rfl, rfl⟩]
    by_cases h1 : A.s = B.s
    · rw [h1, beq_self_eq_true, Bool.true_and]
      cases h2 : intsP A.shape B.shape
      · have c3 := rints_at A.shape B.shape h2
        refine walk2 ?_
        exact ⟨_, _, rfl, rfl, Sub.refl _⟩
      have c3 := rints_at A.shape B.shape h2
      by_cases h3 : A.cells.length = B.cells.length
      · rw [Bool.true_and]
        refine walk2 ?_
        refine aw_loopA [2, 3, 4, 6] [0, 1] (fun k : Nat => [(7, .lit (.int .i64 k))]) (fun _ => []) 2
          (fun k => k ≤ A.cells.length ∧ alikeCs o A.cells B.cells = alikeCs o (A.cells.drop k) (B.cells.drop k)) (fun k => A.cells.length - k) 0 rfl rfl (wkR hC.m []) ⟨Nat.zero_le _, rfl⟩ ?_
        rintro k ⟨hk, hE⟩
        by_cases hlt : k < A.cells.length
        · obtain ⟨c, hc⟩ : ∃ c, A.cells[k]? = some c := ⟨_, List.getElem?_eq_getElem hlt⟩
          obtain ⟨d, hd⟩ : ∃ d, B.cells[k]? = some d := ⟨_, List.getElem?_eq_getElem (by omega)⟩
          have hck := cell_at hc
          have hdk := cell_at hd
          have hcm := List.mem_of_getElem? hc
          have ht : SizeOf.sizeOf c < SizeOf.sizeOf A := Nat.lt_trans (cell_size hcm) A.size
          have c4 := refCells_a o ho c d (cellsOK_mem.1 a4 c hcm) (cellsOK_mem.1 b4 d (List.mem_of_getElem? hd))
          rw [alikeCs_drop o hc hd] at hE
          cases h4 : alikeC o c d
          · rw [h4] at c4
            rw [h4, Bool.false_and] at hE
            rw [hE]
            refine walk2 ?_
            exact ⟨_, _, rfl, rfl, Sub.refl _⟩
          · rw [h4] at c4
            rw [h4, Bool.true_and] at hE
            refine walk2 ?_
            exact ⟨k + 1, by omega, ⟨by omega, hE⟩, wkR hC.m []⟩
        · rw [List.drop_eq_nil_of_le (by omega), List.drop_eq_nil_of_le (by omega), alikeCs] at hE
          rw [hE]
          refine walk2 ?_
          exact ⟨_, _, rfl, rfl, Sub.refl _⟩
      · rw [alikeCs_len _ _ _ h3, Bool.and_false]
        refine walk2 ?_
        exact ⟨_, _, rfl, rfl, Sub.refl _⟩
    · rw [nat_beq_ne h1, Bool.false_and]
      refine walk2 ?_
      exact ⟨_, _, rfl, rfl, Sub.refl _⟩
  termination_by A => SizeOf.sizeOf A

theorem refCells_a (o : Nat) (ho : o < 18446744073709551616) : ∀ (A B : Cell), cellOK A → cellOK B → ACalls Try.prog 84 [.agg (cellV A), .agg (cellV B), labV o] (.lit (.bool (alikeC o A B)))
  | A, B, hA, hB => by
    have hr : reachBytes = 140737488351232 := rfl
    have la := ins_len A
    have lb := ins_len B
    obtain ⟨a1, a2, a3, a4⟩ := hA.parts
    obtain ⟨b1, b2, b3, b4⟩ := hB.parts
    refine acalls_of code_scrimref09_cells (by simp [fn_scrimref09_cells]) fun C hC => ?_
    rw [alikeC_eq]
    cases f1 : flowsN A.l o
    · have c1 := rflows_at A.l o a1 ho f1
      cases f2 : flowsN B.l o
      · have c2 := rflows_at B.l o b1 ho f2
        refine walk2 ?_
        exact ⟨_, _, rfl, rfl, Sub.refl _⟩
      · have c2 := rflows_at B.l o b1 ho f2
        refine walk2 ?_
        exact ⟨_, _, rfl, rfl, Sub.refl _⟩
    have c1 := rflows_at A.l o a1 ho f1
    cases f2 : flowsN B.l o
    · have c2 := rflows_at B.l o b1 ho f2
      refine walk2 ?_
      exact ⟨_, _, rfl, rfl, Sub.refl _⟩
    have c2 := rflows_at B.l o b1 ho f2
    rw [if_pos ⟨rfl, rfl⟩]
    by_cases h1 : A.l = B.l
    · by_cases h5 : A.kind = B.kind
      · by_cases h6 : A.c = B.c
        · rw [h1, beq_self_eq_true, Bool.true_and, h5, beq_self_eq_true, Bool.true_and, h6, beq_self_eq_true, Bool.true_and]
          cases h2 : numP A.n B.n
          · have c3 := rnum_at A.n B.n h2
            refine walk2 ?_
            exact ⟨_, _, rfl, rfl, Sub.refl _⟩
          have c3 := rnum_at A.n B.n h2
          by_cases h3 : A.ins.length = B.ins.length
          · rw [Bool.true_and]
            refine walk2 ?_
            refine aw_loopA [2, 3, 4, 6] [0, 1] (fun k : Nat => [(7, .lit (.int .i64 k))]) (fun _ => []) 2
              (fun k => k ≤ A.ins.length ∧ alikeAs o A.ins B.ins = alikeAs o (A.ins.drop k) (B.ins.drop k)) (fun k => A.ins.length - k) 0 rfl rfl (wkR hC.m []) ⟨Nat.zero_le _, rfl⟩ ?_
            rintro k ⟨hk, hE⟩
            by_cases hlt : k < A.ins.length
            · obtain ⟨c, hc⟩ : ∃ c, A.ins[k]? = some c := ⟨_, List.getElem?_eq_getElem hlt⟩
              obtain ⟨d, hd⟩ : ∃ d, B.ins[k]? = some d := ⟨_, List.getElem?_eq_getElem (by omega)⟩
              have hck := arr_at hc
              have hdk := arr_at hd
              have hcm := List.mem_of_getElem? hc
              have ht : SizeOf.sizeOf c < SizeOf.sizeOf A := Nat.lt_trans (arr_size hcm) A.size
              have c4 := refAlike_a o ho c d (arrsOK_mem.1 a4 c hcm) (arrsOK_mem.1 b4 d (List.mem_of_getElem? hd))
              rw [alikeAs_drop o hc hd] at hE
              cases h4 : alikeA o c d
              · rw [h4] at c4
                rw [h4, Bool.false_and] at hE
                rw [hE]
                refine walk2 ?_
                exact ⟨_, _, rfl, rfl, Sub.refl _⟩
              · rw [h4] at c4
                rw [h4, Bool.true_and] at hE
                refine walk2 ?_
                exact ⟨k + 1, by omega, ⟨by omega, hE⟩, wkR hC.m []⟩
            · rw [List.drop_eq_nil_of_le (by omega), List.drop_eq_nil_of_le (by omega), alikeAs] at hE
              rw [hE]
              refine walk2 ?_
              exact ⟨_, _, rfl, rfl, Sub.refl _⟩
          · rw [alikeAs_len _ _ _ h3, Bool.and_false]
            refine walk2 ?_
            exact ⟨_, _, rfl, rfl, Sub.refl _⟩
        · rw [h1, h5, int_beq_ne h6, beq_self_eq_true, beq_self_eq_true]
          refine walk2 ?_
          exact ⟨_, _, rfl, rfl, Sub.refl _⟩
      · rw [h1, int_beq_ne h5, beq_self_eq_true]
        refine walk2 ?_
        exact ⟨_, _, rfl, rfl, Sub.refl _⟩
    · rw [nat_beq_ne h1, Bool.false_and]
      refine walk2 ?_
      exact ⟨_, _, rfl, rfl, Sub.refl _⟩
  termination_by A => SizeOf.sizeOf A
end
theorem refAlike_at (A B : Arr) (o : Nat) (ho : o < 18446744073709551616) (hA : arrOK A) (hB : arrOK B) {b : Bool} (h : alikeA o A B = b) : ACalls Try.prog 37 [.agg (arrV A), .agg (arrV B), labV o] (.lit (.bool b)) := h ▸ refAlike_a o ho A B hA hB

end Go.Proofs.Ytfnilbkahkbljaa
namespace Go.Proofs.Ytfnilbkahkbljaa
set_option linter.unusedVariables false
open Go.RowKit

end Go.Proofs.Ytfnilbkahkbljaa
namespace Go.Proofs.Ytfnilbkahkbljaa
set_option linter.unusedVariables false
open Go.RowKit

/-- an array that is as large as its shape says -/
structure okJ (A : Arr) : Prop where
  ok : okA A
  e : (cnt A.shape).2 = 0
  c : (cnt A.shape).1 = A.cells.length

theorem okJ.small {A : Arr} (h : okJ A) : Small A.shape := cnt_small h.e
theorem okJ.len {A : Arr} (h : okJ A) : A.shape.length ≤ 6 := cnt_len h.e
theorem okJ.prod {A : Arr} (h : okJ A) : prodL A.shape = A.cells.length := by rw [← cnt_prod h.e]; exact h.c
theorem okJ.cells {A : Arr} (h : okJ A) : A.cells.length ≤ 2048 := by have := (cnt_le A.shape).2; rw [h.c] at this; omega

theorem prodC_le : ∀ (l : List Int) (o : Int), 0 < o → (∀ z ∈ l, 0 < z) → o * prodL l ≤ 2048 → prodC l o = o * prodL l
  | [], o, _, _, _ => by simp [prodC, prodL]
  | z :: l, o, ho, hp, h => by
    have hz := hp z (by simp)
    have hl := prodL_pos l (fun y hy => hp y (by simp [hy]))
    simp only [prodL] at h ⊢
    rw [← Int.mul_assoc] at h ⊢
    have h1 : o * z ≤ o * z * prodL l := by
      have := Int.mul_le_mul_of_nonneg_left (show (1 : Int) ≤ prodL l by omega) (Int.le_of_lt (Int.mul_pos ho hz))
      rwa [Int.mul_one] at this
    simp only [prodC]
    rw [if_neg (by omega)]
    exact prodC_le l (o * z) (Int.mul_pos ho hz) (fun y hy => hp y (by simp [hy])) h

theorem split_at {s : List Int} {x : Nat} {z : Int} (h : s[x]? = some z) : s = s.take x ++ z :: s.drop (x + 1) := by
  have := (List.getElem?_eq_some_iff.1 h)
  obtain ⟨hx, e⟩ := this
  rw [← e, ← List.drop_eq_getElem_cons hx, List.take_append_drop]

/-- how many blocks ahead, how many cells behind an axis -/
def aheadN (u : List Int) (x : Nat) : Nat := (prodC (u.take x) 1).toNat
def behindN (u : List Int) (x : Nat) : Nat := (prodC (u.drop (x + 1)) 1).toNat

theorem Small.mem {s t : List Int} (h : Small s) (ht : ∀ z ∈ t, z ∈ s) : Small t := fun z hz => h z (ht z hz)

theorem ahead_eq {u : List Int} (x : Nat) (hu : Small u) : prodC (u.take x) 1 = (aheadN u x : Nat) ∧ aheadN u x ≤ 2048 ∧ prodC (u.drop (x + 1)) 1 = (behindN u x : Nat) ∧ behindN u x ≤ 2048 := by
  have h1 := prodC_range (u.take x) 1 (by omega) (by omega) (hu.mem fun z hz => List.mem_of_mem_take hz)
  have h2 := prodC_range (u.drop (x + 1)) 1 (by omega) (by omega) (hu.mem fun z hz => List.mem_of_mem_drop hz)
  unfold aheadN behindN
  omega

/-- the cells of a shape: blocks ahead, along the axis, behind -/
theorem geo {u : List Int} {x n : Nat} (h : (cnt u).2 = 0) (hz : u[x]? = some (n : Int)) :
    ((∀ z ∈ u, 0 < z) ∧ prodL (u.take x) = (aheadN u x : Nat) ∧ prodL (u.drop (x + 1)) = (behindN u x : Nat) ∧ (cnt u).1 = ((aheadN u x * (n * behindN u x) : Nat) : Int)) ∨
    ((0 : Int) ∈ u ∧ (cnt u).1 = 0 ∧ (aheadN u x = 0 ∨ n = 0 ∨ behindN u x = 0)) := by
  have hs := cnt_small h
  have hsp := split_at hz
  have hp := cnt_prod h
  have hle := cnt_le u
  by_cases h0 : (0 : Int) ∈ u
  · refine .inr ⟨h0, by rw [hp, prodL_zero h0], ?_⟩
    rw [hsp, List.mem_append, List.mem_cons] at h0
    rcases h0 with h0 | h0 | h0
    · left; unfold aheadN; rw [prodC_zero _ _ (hs.mem fun z hz => List.mem_of_mem_take hz) h0]; rfl
    · right; left; omega
    · right; right; unfold behindN; rw [prodC_zero _ _ (hs.mem fun z hz => List.mem_of_mem_drop hz) h0]; rfl
  · have hpos : ∀ z ∈ u, 0 < z := fun z hz => by
      have := (hs z hz).1
      rcases Int.lt_or_eq_of_le this with h1 | h1
      · exact h1
      · subst h1; exact absurd hz h0
    have p1 := prodL_pos (u.take x) (fun z hz => hpos z (List.mem_of_mem_take hz))
    have p2 := prodL_pos (u.drop (x + 1)) (fun z hz => hpos z (List.mem_of_mem_drop hz))
    have pn : 0 < (n : Int) := hpos _ (List.mem_of_getElem? hz)
    have e : prodL u = prodL (u.take x) * (n * prodL (u.drop (x + 1))) := by
      conv => lhs; rw [hsp]
      rw [prodL_append, prodL_cons]
    have l1 : prodL (u.take x) ≤ 2048 := by
      have h1 : 1 ≤ (n : Int) * prodL (u.drop (x + 1)) := Int.mul_pos pn p2
      have := Int.mul_le_mul_of_nonneg_left h1 (Int.le_of_lt p1)
      rw [Int.mul_one] at this; omega
    have l2 : prodL (u.drop (x + 1)) ≤ 2048 := by
      have h1 : 1 * prodL (u.drop (x + 1)) ≤ (n : Int) * prodL (u.drop (x + 1)) := Int.mul_le_mul_of_nonneg_right (by omega) (Int.le_of_lt p2)
      have h2 := Int.mul_pos pn p2
      have h3 : 1 * ((n : Int) * prodL (u.drop (x + 1))) ≤ prodL (u.take x) * (n * prodL (u.drop (x + 1))) := Int.mul_le_mul_of_nonneg_right (by omega) (Int.le_of_lt h2)
      omega
    have c1 := prodC_le (u.take x) 1 (by omega) (fun z hz => hpos z (List.mem_of_mem_take hz)) (by omega)
    have c2 := prodC_le (u.drop (x + 1)) 1 (by omega) (fun z hz => hpos z (List.mem_of_mem_drop hz)) (by omega)
    have a := ahead_eq x hs
    refine .inl ⟨hpos, by omega, by omega, ?_⟩
    rw [hp, e, Int.natCast_mul, Int.natCast_mul]
    rw [show prodL (u.take x) = (aheadN u x : Nat) from by omega, show prodL (u.drop (x + 1)) = (behindN u x : Nat) from by omega]

end Go.Proofs.Ytfnilbkahkbljaa
namespace Go.Proofs.Ytfnilbkahkbljaa
set_option linter.unusedVariables false
open Go.RowKit

end Go.Proofs.Ytfnilbkahkbljaa
namespace Go.Proofs.Ytfnilbkahkbljaa
set_option linter.unusedVariables false
open Go.RowKit

theorem cnt_ok {s : List Int} (h6 : s.length ≤ 6) (hs : Small s) (hp : prodL s ≤ 2048) : (cnt s).2 = 0 := by
  unfold cnt
  rw [if_neg (by omega), if_neg (by simp only [List.any_eq_true, decide_eq_true_eq, not_exists, not_and]; exact fun z hz => by have := (hs z hz).1; omega), if_neg (by simp only [List.any_eq_true, decide_eq_true_eq, not_exists, not_and]; exact fun z hz => by have := (hs z hz).2; omega)]
  split
  · rfl
  · rename_i h
    have hpos : ∀ z ∈ s, 0 < z := fun z hz => by
      have h1 := (hs z hz).1
      rcases Int.lt_or_eq_of_le h1 with h2 | h2
      · exact h2
      · subst h2
        exact absurd (List.any_eq_true.2 ⟨0, hz, by simp⟩) h
    have e := prodC_le s 1 (by omega) hpos (by omega)
    have := prodL_pos s hpos
    rw [if_neg (by omega)]

end Go.Proofs.Ytfnilbkahkbljaa
namespace Go.Proofs.Ytfnilbkahkbljaa
set_option linter.unusedVariables false
open Go.RowKit

end Go.Proofs.Ytfnilbkahkbljaa
namespace Go.Proofs.Ytfnilbkahkbljaa
set_option linter.unusedVariables false
open Go.RowKit

theorem arrOK_zero : arrOK (.mk 0 [] []) := ⟨by omega, by simp, by simp [reachBytes], by simp [reachBytes], trivial⟩

theorem i64_wf {z : Int} (h0 : -9223372036854775808 ≤ z) (h1 : z ≤ 9223372036854775807) : (Lit.int .i64 z).wf = true := by
  have e1 : IntKind.i64.min = -9223372036854775808 := by decide
  have e2 : IntKind.i64.max = 9223372036854775807 := by decide
  simp only [Lit.wf, Bool.and_eq_true, decide_eq_true_eq]
  omega

theorem alone_a (z : Int) (s : Nat) (h0 : -9223372036854775808 ≤ z) (h1 : z ≤ 9223372036854775807) : ACalls Try.prog 44 [.lit (.int .i64 z), labV s] (.agg (arrV (.mk s [] [intC z]))) := by
  have c1 := r8Int_a z h0 h1
  refine acalls_of code_scrimref11_Alone (by simp [fn_scrimref11_Alone]) fun C hC => ?_
  refine walk2 ?_
  exact fin

theorem intJ_ok (z : Int) (h : z.natAbs < 2 ^ 64) : okC (intC z) := by
  have := limbs_len_pow 64 z.natAbs h
  simp only [intC, okC, ofZ, okAs, maxB, List.length_nil, List.length_cons]
  exact ⟨by omega, by omega, by omega, by omega, trivial⟩

theorem u32J_ok {m : List Int} (h : limOK m) : ∀ z ∈ m, (Lit.int .u32 z).wf = true := fun z hz => by
  have := h z hz
  have e1 : IntKind.u32.min = 0 := by decide
  have e2 : IntKind.u32.max = 4294967295 := by decide
  simp only [Lit.wf, Bool.and_eq_true, decide_eq_true_eq]
  omega

theorem intJ_OK (z : Int) (h : z.natAbs < 2 ^ 64) : cellOK (intC z) := by
  have := limbs_len_pow 64 z.natAbs h
  have hr : reachBytes = 140737488351232 := by decide
  simp only [intC, cellOK, ofZ, numOK, arrsOK, List.length_nil, List.length_cons]
  exact ⟨by omega, by decide, ⟨u32J_ok (limbs_ok _), by simp; decide, by omega, by omega⟩, by decide, by omega, trivial⟩

theorem okCs_of {cs : List Cell} (h : ∀ c ∈ cs, okC c) : okCs cs := okCs_mem.2 h

theorem intsJ_ok (l : List Int) (sh : List Int) (s : Nat) (hl : l.length ≤ 1000) (hs : sh.length ≤ 6) (h64 : s < 18446744073709551616) (hz : ∀ z ∈ l, z.natAbs < 2 ^ 64) : okA (.mk s sh (l.map intC)) := by
  simp only [okA]
  refine ⟨h64, by simp only [maxB]; omega, by simp only [maxB, List.length_map]; omega, okCs_of fun c hc => ?_⟩
  obtain ⟨z, hz', rfl⟩ := List.mem_map.1 hc
  exact intJ_ok z (hz z hz')

end Go.Proofs.Ytfnilbkahkbljaa
namespace Go.Proofs.Ytfnilbkahkbljaa
set_option linter.unusedVariables false
open Go.RowKit

theorem okJ_of {A : Arr} {d : Nat} (hA : okA A) (r : rightA d A = true) : okJ A := ⟨hA, (right_shape r).1, (right_shape r).2.1⟩
theorem okJ_good {A : Arr} (hA : arrOK A) (h : goodA A = true) : okJ A := okJ_of (few_ok hA (good_few h)) (good_right h)

end Go.Proofs.Ytfnilbkahkbljaa
namespace Go.Proofs.Ytfnilbkahkbljaa
set_option linter.unusedVariables false
open Go.RowKit

end Go.Proofs.Ytfnilbkahkbljaa
namespace Go.Proofs.Ytfnilbkahkbljaa
set_option linter.unusedVariables false
open Go.RowKit

mutual
def totA : Arr → Nat
  | .mk s _ cs => totCs cs s
def totCs : List Cell → Nat → Nat
  | [], n => n
  | c :: cs, n => totCs cs (totC c n)
def totC : Cell → Nat → Nat
  | .mk l _ _ _ ins, n => totAs ins (n ||| l)
def totAs : List Arr → Nat → Nat
  | [], n => n
  | a :: xs, n => totAs xs (n ||| totA a)
end

theorem totA_eq (A : Arr) : totA A = totCs A.cells A.s := by cases A; simp only [totA, Arr.cells, Arr.s]
theorem totC_eq (c : Cell) (n : Nat) : totC c n = totAs c.ins (n ||| c.l) := by cases c; simp only [totC, Cell.ins, Cell.l]
theorem totCs_at {cs : List Cell} {k : Nat} {c : Cell} (h : cs[k]? = some c) (n : Nat) : totCs (cs.drop k) n = totCs (cs.drop (k + 1)) (totAs c.ins (n ||| c.l)) := by
  rw [dropA_cons h, totCs, totC_eq]
theorem totAs_at {xs : List Arr} {k : Nat} {a : Arr} (h : xs[k]? = some a) (n : Nat) : totAs (xs.drop k) n = totAs (xs.drop (k + 1)) (n ||| totA a) := by
  rw [dropA_cons h, totAs]

mutual
theorem totA_lt : ∀ (A : Arr), okA A → totA A < 18446744073709551616
  | .mk s sh cs, h => by simp only [totA]; exact totCs_lt cs s h.2.2.2 h.1
theorem totCs_lt : ∀ (cs : List Cell) (n : Nat), okCs cs → n < 18446744073709551616 → totCs cs n < 18446744073709551616
  | [], n, _, h => by simpa [totCs] using h
  | c :: cs, n, h, hn => by
    simp only [totCs, okCs] at h ⊢
    exact totCs_lt cs _ h.2 (totC_lt c n h.1 hn)
theorem totC_lt : ∀ (c : Cell) (n : Nat), okC c → n < 18446744073709551616 → totC c n < 18446744073709551616
  | .mk l _ _ _ ins, n, h, hn => by
    simp only [totC, okC] at h ⊢
    exact totAs_lt ins _ h.2.2.2.2 (or_lt _ _ hn h.1)
theorem totAs_lt : ∀ (xs : List Arr) (n : Nat), okAs xs → n < 18446744073709551616 → totAs xs n < 18446744073709551616
  | [], n, _, h => by simpa [totAs] using h
  | a :: xs, n, h, hn => by
    simp only [totAs, okAs] at h ⊢
    exact totAs_lt xs _ h.2 (or_lt _ _ hn (totA_lt a h.1))
end

set_option maxHeartbeats 1000000 in
theorem total_a : ∀ (A : Arr), okA A → ACalls Try.prog 51 [.agg (arrV A)] (labV (totA A))
  | A, hA => by
    have hB : maxB = 1000000000 := rfl
    have lcs := cells_len A
    obtain ⟨a1, a2, a3, a4⟩ := hA.parts
    refine acalls_of code_array_Total (by simp [fn_array_Total]) fun C hC => ?_
    have e := totA_eq A
    refine walk2 ?_
    refine aw_loopB [1, 11, 12] [0] (fun p : Nat × Nat => [(3, labV p.2), (13, .lit (.int .i64 p.1))]) (fun _ => []) 1
      (fun p => p.1 ≤ A.cells.length ∧ p.2 < 18446744073709551616 ∧ totA A = totCs (A.cells.drop p.1) p.2) (fun p => A.cells.length - p.1) (0, A.s) ⟨Nat.zero_le _, a1, e⟩ ?_
    rintro ⟨k, n⟩ ⟨hk, hn, hE⟩
    simp only at hk hn hE
    dsimp only [List.cons_append, List.nil_append]
    by_cases hlt : k < A.cells.length
    · obtain ⟨c, hc⟩ : ∃ c, A.cells[k]? = some c := ⟨_, List.getElem?_eq_getElem hlt⟩
      have hck := cell_at hc
      have hcm := List.mem_of_getElem? hc
      have hcok := okCs_mem.1 a4 c hcm
      obtain ⟨b1, b2, b3, b4, b5⟩ := hcok.parts
      have lin := ins_len c
      rw [totCs_at hc] at hE
      have c1 := join_a n c.l hn b1
      have hn2 := or_lt n c.l hn b1
      have ht : SizeOf.sizeOf c < SizeOf.sizeOf A := Nat.lt_trans (cell_size hcm) A.size
      refine walk2 ?_
      refine aw_loopB [1, 11, 12, 13, 22, 23] [0] (fun p : Nat × Nat => [(3, labV p.2), (24, .lit (.int .i64 p.1))]) (fun _ => []) 2
        (fun p => p.1 ≤ c.ins.length ∧ p.2 < 18446744073709551616 ∧ totA A = totCs (A.cells.drop (k + 1)) (totAs (c.ins.drop p.1) p.2)) (fun p => c.ins.length - p.1) (0, n ||| c.l) ⟨Nat.zero_le _, hn2, hE⟩ ?_
      rintro ⟨j, m⟩ ⟨hj, hm, hF⟩
      simp only at hj hm hF
      dsimp only [List.cons_append, List.nil_append]
      by_cases hlj : j < c.ins.length
      · obtain ⟨x, hx⟩ : ∃ x, c.ins[j]? = some x := ⟨_, List.getElem?_eq_getElem hlj⟩
        have hxk := arr_at hx
        have hxm := List.mem_of_getElem? hx
        have hxok := okAs_mem.1 b5 x hxm
        have ht2 : SizeOf.sizeOf x < SizeOf.sizeOf A := Nat.lt_trans (arr_size hxm) (Nat.lt_trans c.size ht)
        have c4 := total_a x hxok
        have hxl := totA_lt x hxok
        have c5 := join_a m (totA x) hm hxl
        rw [totAs_at hx] at hF
        clear c1
        refine walk2 ?_
        exact ⟨(j + 1, m ||| totA x), by simp only; omega, ⟨by simp only; omega, or_lt _ _ hm hxl, hF⟩, wkR hC.m []⟩
      · rw [show c.ins.drop j = [] from List.drop_eq_nil_of_le (by omega), totAs] at hF
        clear c1
        refine walk2 ?_
        exact ⟨(k + 1, m), by simp only; omega, ⟨by simp only; omega, hm, hF⟩, wkR hC.m []⟩
    · rw [List.drop_eq_nil_of_le (by omega), totCs] at hE
      rw [hE]
      refine walk2 ?_
      exact fin
  termination_by A => SizeOf.sizeOf A

end Go.Proofs.Ytfnilbkahkbljaa
namespace Go.Proofs.Ytfnilbkahkbljaa
set_option linter.unusedVariables false
open Go.RowKit

end Go.Proofs.Ytfnilbkahkbljaa
namespace Go.Proofs.Ytfnilbkahkbljaa
set_option linter.unusedVariables false
open Go.RowKit

theorem flowsN_or (a b o : Nat) : flowsN (a ||| b) o = (flowsN a o && flowsN b o) := by
  unfold flowsN
  rw [Bool.eq_iff_iff]
  simp only [beq_iff_eq, Bool.and_eq_true]
  constructor
  · intro h
    constructor
    · conv => lhs; rw [← h]
      rw [← Nat.or_assoc, ← Nat.or_assoc, Nat.or_self]; exact h
    · conv => lhs; rw [← h]
      rw [Nat.or_comm a b, Nat.or_assoc b a o, ← Nat.or_assoc b b, Nat.or_self, ← Nat.or_assoc, Nat.or_comm b a]; exact h
  · rintro ⟨h1, h2⟩
    rw [Nat.or_assoc, h2, h1]

theorem alikeC_D (o : Nat) : alikeC o cellD cellD = true := by
  simp [cellD, alikeC, numP, intsP, alikeAs]

theorem alikeCs_iff (o : Nat) : ∀ {cs ds : List Cell}, alikeCs o cs ds = true ↔ cs.length = ds.length ∧ ∀ i, alikeC o (cs.getD i cellD) (ds.getD i cellD) = true
  | [], [] => ⟨fun _ => ⟨rfl, fun i => by simpa using alikeC_D o⟩, fun _ => by simp [alikeCs]⟩
  | [], d :: ds => by simp [alikeCs]
  | c :: cs, [] => by simp [alikeCs]
  | c :: cs, d :: ds => by
    rw [alikeCs, Bool.and_eq_true, alikeCs_iff o (cs := cs) (ds := ds)]
    constructor
    · rintro ⟨h1, h2, h3⟩
      refine ⟨by simpa using h2, fun i => ?_⟩
      cases i with
      | zero => simpa using h1
      | succ i => simpa using h3 i
    · rintro ⟨h1, h2⟩
      refine ⟨by simpa using h2 0, by simpa using h1, fun i => by simpa using h2 (i + 1)⟩

theorem alikeA_inv {o : Nat} {A B : Arr} (h : alikeA o A B = true) : (flowsN A.s o = false ∧ flowsN B.s o = false) ∨ (flowsN A.s o = true ∧ flowsN B.s o = true ∧ A.s = B.s ∧ A.shape = B.shape ∧ alikeCs o A.cells B.cells = true) := by
  rw [alikeA_eq] at h
  split at h
  · rename_i hv
    simp only [Bool.and_eq_true, beq_iff_eq] at h
    have := h.2.1
    unfold intsP at this
    exact .inr ⟨hv.1, hv.2, h.1, by simpa using this, h.2.2⟩
  · rename_i hv
    rw [beq_iff_eq] at h
    left
    cases h1 : flowsN A.s o <;> cases h2 : flowsN B.s o <;> simp_all

theorem alikeA_hid {o : Nat} {A B : Arr} (h1 : flowsN A.s o = false) (h2 : flowsN B.s o = false) : alikeA o A B = true := by
  rw [alikeA_eq, h1, h2]; simp

theorem alikeA_seen {o : Nat} {A B : Arr} (hs : A.s = B.s) (hsh : A.shape = B.shape) (hc : alikeCs o A.cells B.cells = true) : alikeA o A B = true := by
  rw [alikeA_eq, hs, hsh, hc]
  split
  · simp [intsP]
  · simp

end Go.Proofs.Ytfnilbkahkbljaa
