/- Right, thin, good arrays: what the reference answers. -/
import Derived.Test.YtfnbhkeilcbmjaaArrP
namespace Go.Proofs.Ytfnbhkeilcbmjaa
set_option linter.unusedVariables false
open Go.RowKit

set_option maxHeartbeats 4000000 in
mutual
theorem right_a : ∀ (d : Nat) (A : Arr) (q : Int), q = d → d ≤ 100 → arrOK A → ACalls Try.prog 50 [.agg (arrV A), .lit (.int .i64 q)] (.lit (.bool (rightA d A)))
  | d, A, q, hq, hd, hA => by
    have hr : reachBytes = 140737488351232 := rfl
    have lcs := cells_len A
    obtain ⟨a1, a2, a3, a4⟩ := hA.parts
    have c1 := rcount_a A.shape
    refine acalls_of code_scrimref08_Right (by simp [fn_scrimref08_Right]) fun C hC => ?_
    rw [rightA_eq]
    generalize rcnt A.shape = R at c1 ⊢
    obtain ⟨n, e⟩ := R
    simp only at c1 ⊢
    by_cases h1 : e = 0
    · subst h1
      rw [beq_self_eq_true, Bool.true_and]
      by_cases h2 : n = A.cells.length
      · subst h2
        rw [beq_self_eq_true, Bool.true_and]
        refine walk2 ?_
        refine aw_loopB [1, 2, 4, 5] [0] (fun k : Nat => [(7, .lit (.int .i64 k))]) (fun _ => []) 1 (fun k => k ≤ A.cells.length ∧ rightCs d A.cells = rightCs d (A.cells.drop k)) (fun k => A.cells.length - k) 0 ⟨Nat.zero_le _, rfl⟩ ?_
        rintro k ⟨hk, hE⟩
        dsimp only [List.cons_append, List.nil_append]
        by_cases hlt : k < A.cells.length
        · obtain ⟨c, hc⟩ : ∃ c, A.cells[k]? = some c := ⟨_, List.getElem?_eq_getElem hlt⟩
          have hck := cell_at hc
          have hcm := List.mem_of_getElem? hc
          have hcok := cellsOK_mem.1 a4 c hcm
          rw [rightCs_at hc] at hE
          have ht : SizeOf.sizeOf c < SizeOf.sizeOf A := Nat.lt_trans (cell_size hcm) A.size
          have c2 := rightCell_a d c q hq hd hcok
          cases h4 : rightC d c
          · rw [h4] at c2
            rw [h4, Bool.false_and] at hE
            rw [hE]
            refine walk2 ?_
            exact fin
          · rw [h4] at c2
            rw [h4, Bool.true_and] at hE
            refine walk2 ?_
            exact ⟨k + 1, by omega, ⟨by omega, hE⟩, wkR hC.m []⟩
        · rw [List.drop_eq_nil_of_le (by omega), rightCs] at hE
          rw [hE]
          refine walk2 ?_
          exact fin
      · rw [int_beq_ne h2, Bool.false_and]
        refine walk2 ?_
        exact fin
    · rw [int_beq_ne h1, Bool.false_and]
      refine walk2 ?_
      exact fin
  termination_by _ A => SizeOf.sizeOf A

theorem rightCell_a : ∀ (d : Nat) (A : Cell) (q : Int), q = d → d ≤ 100 → cellOK A → ACalls Try.prog 65 [.agg (cellV A), .lit (.int .i64 q)] (.lit (.bool (rightC d A)))
  | d, A, q, hq, hd, hA => by
    have hr : reachBytes = 140737488351232 := rfl
    have lin := ins_len A
    obtain ⟨a1, a2, a3, a4⟩ := hA.parts
    have c1 := rRight_a A.n a2
    have c2 := zero_a A.n
    have c3 := may_a A.c
    refine acalls_of code_scrimref08_Cell (by simp [fn_scrimref08_Cell]) fun C hC => ?_
    rw [rightC_eq]
    by_cases k0 : A.kind = 0
    · rw [if_pos k0]
      by_cases h1 : A.c = 0
      · rw [h1] at c3 ⊢
        rw [beq_self_eq_true, Bool.true_and]
        by_cases h2 : A.ins.length = 0
        · rw [h2, beq_self_eq_true, Bool.true_and]
          refine walk2 ?_
          exact fin
        · rw [nat_beq_ne h2, Bool.false_and]
          refine walk2 ?_
          exact fin
      · rw [int_beq_ne h1, Bool.false_and]
        refine walk2 ?_
        exact fin
    · rw [if_neg k0]
      by_cases k1 : A.kind = 1
      · rw [if_pos k1]
        cases h1 : zeroN A.n
        · rw [h1] at c2
          rw [Bool.false_and]
          refine walk2 ?_
          exact fin
        · rw [h1] at c2
          rw [Bool.true_and]
          by_cases h2 : A.ins.length = 0
          · rw [h2, beq_self_eq_true, Bool.true_and]
            refine walk2 ?_
            exact fin
          · rw [nat_beq_ne h2, Bool.false_and]
            refine walk2 ?_
            exact fin
      · rw [if_neg k1]
        by_cases k2 : A.kind = 2
        · rw [show (A.kind == 2) = true from by simpa using k2, Bool.true_and]
          cases h1 : zeroN A.n
          · rw [h1] at c2
            rw [Bool.false_and]
            refine walk2 ?_
            exact fin
          rw [h1] at c2
          rw [Bool.true_and]
          by_cases h3 : A.c = 0
          · rw [h3, beq_self_eq_true, Bool.true_and]
            by_cases h2 : A.ins.length = 1
            · rw [h2, beq_self_eq_true, Bool.true_and]
              by_cases h4 : 0 < d
              · rw [decide_eq_true h4, Bool.true_and]
                obtain ⟨x, hx⟩ : ∃ x, A.ins[0]? = some x := ⟨_, List.getElem?_eq_getElem (by omega)⟩
                have hxk := arr_at hx
                have hxm := List.mem_of_getElem? hx
                have hxok := arrsOK_mem.1 a4 x hxm
                have e : rightB (d - 1) A.ins = (!simpleA x && rightA (d - 1) x) := by
                  match hA : A.ins, hx with
                  | y :: r, hx => simp at hx; subst hx; rw [rightB]
                rw [e]
                have ht : SizeOf.sizeOf x < SizeOf.sizeOf A := Nat.lt_trans (arr_size hxm) A.size
                have c4 := simple_a x
                have c5 := right_a (d - 1) x (q - 1) (by omega) (by omega) hxok
                cases h5 : simpleA x
                · rw [h5] at c4
                  rw [Bool.not_false, Bool.true_and]
                  refine walk2 ?_
                  exact fin
                · rw [h5] at c4
                  rw [Bool.not_true, Bool.false_and]
                  refine walk2 ?_
                  exact fin
              · rw [decide_eq_false h4, Bool.false_and]
                refine walk2 ?_
                exact fin
            · rw [nat_beq_ne h2, Bool.false_and]
              refine walk2 ?_
              exact fin
          · rw [int_beq_ne h3, Bool.false_and]
            refine walk2 ?_
            exact fin
        · rw [int_beq_ne k2, Bool.false_and]
          refine walk2 ?_
          exact fin
  termination_by _ A => SizeOf.sizeOf A
end

def thinS : List Int → Int → Int
  | [], n => n
  | z :: zs, n => if n ≤ 100000 then thinS zs (if z > 0 then n * z else n) else n
mutual
def thinA : Arr → Bool
  | .mk _ sh cs => decide (thinS sh 1 ≤ 100000) && thinCs cs
def thinCs : List Cell → Bool
  | [] => true
  | c :: cs => thinC c && thinCs cs
def thinC : Cell → Bool
  | .mk _ _ _ _ ins => thinAs ins
def thinAs : List Arr → Bool
  | [] => true
  | a :: xs => thinA a && thinAs xs
end
theorem thinA_eq (A : Arr) : thinA A = (decide (thinS A.shape 1 ≤ 100000) && thinCs A.cells) := by cases A; unfold thinA; rfl
theorem thinC_eq (c : Cell) : thinC c = thinAs c.ins := by cases c; unfold thinC; rfl
theorem thinCs_at {cs : List Cell} {k : Nat} {c : Cell} (h : cs[k]? = some c) : thinCs (cs.drop k) = (thinC c && thinCs (cs.drop (k + 1))) := by
  obtain ⟨hk, rfl⟩ := List.getElem?_eq_some_iff.1 h
  rw [List.drop_eq_getElem_cons hk, thinCs]
theorem thinAs_at {cs : List Arr} {k : Nat} {c : Arr} (h : cs[k]? = some c) : thinAs (cs.drop k) = (thinA c && thinAs (cs.drop (k + 1))) := by
  obtain ⟨hk, rfl⟩ := List.getElem?_eq_some_iff.1 h
  rw [List.drop_eq_getElem_cons hk, thinAs]
theorem thinS_at {s : List Int} {k : Nat} {z : Int} (h : s[k]? = some z) (n : Int) (hn : n ≤ 100000) : thinS (s.drop k) n = thinS (s.drop (k + 1)) (if z > 0 then n * z else n) := by
  rw [dropA_cons h, thinS, if_pos hn]

theorem right_shape {d : Nat} {A : Arr} (h : rightA d A = true) : (cnt A.shape).2 = 0 ∧ (cnt A.shape).1 = A.cells.length ∧ rightCs d A.cells = true := by
  rw [rightA_eq, rcnt_eq] at h
  simp only [Bool.and_eq_true, beq_iff_eq] at h
  exact h
/-- what is in a right cell -/
theorem right_in {d : Nat} {c : Cell} (h : rightC d c = true) : ∀ x ∈ c.ins, ∃ e, e < d ∧ rightA e x = true := by
  intro x hx
  rw [rightC_eq] at h
  have hl : c.ins.length ≠ 0 := by cases hi : c.ins <;> simp_all
  split at h
  · simp only [Bool.and_eq_true, beq_iff_eq] at h; exact absurd h.2.1 hl
  · split at h
    · simp only [Bool.and_eq_true, beq_iff_eq] at h; exact absurd h.2.1 hl
    · simp only [Bool.and_eq_true, beq_iff_eq, decide_eq_true_eq] at h
      obtain ⟨_, _, _, h1, h2, h3⟩ := h
      match hi : c.ins, h1, h3, hx with
      | [y], _, h3, hx =>
        simp only [List.mem_singleton] at hx
        subst hx
        rw [rightB] at h3
        simp only [Bool.and_eq_true] at h3
        exact ⟨d - 1, by omega, h3.2⟩

set_option maxHeartbeats 1000000 in
theorem thin_a : ∀ (A : Arr) (d : Nat), rightA d A = true → arrOK A → ACalls Try.prog 51 [.agg (arrV A)] (.lit (.bool (thinA A)))
  | A, d, hR, hA => by
    have hr : reachBytes = 140737488351232 := rfl
    have lcs := cells_len A
    have lsh := intsA_len .i64 A.shape
    obtain ⟨a1, a2, a3, a4⟩ := hA.parts
    obtain ⟨r1, r2, r3⟩ := right_shape hR
    have hsm := cnt_small r1
    have r3' := rightCs_mem.1 r3
    refine acalls_of code_scrimref08_thin (by simp [fn_scrimref08_thin]) fun C hC => ?_
    rw [thinA_eq]
    refine walk2 ?_
    refine aw_loopB [1, 2] [0] (fun p : Nat × Int => [(3, .lit (.int .i64 p.2)), (4, .lit (.int .i64 p.1))]) (fun _ => []) 1 (fun p => p.1 ≤ A.shape.length ∧ 0 ≤ p.2 ∧ p.2 ≤ 204800000 ∧ thinS A.shape 1 = thinS (A.shape.drop p.1) p.2) (fun p => A.shape.length - p.1) (0, 1)
      ⟨Nat.zero_le _, by simp only; omega, by simp only; omega, rfl⟩ ?_
    rintro ⟨i, n⟩ ⟨hi, n0, n1, hS⟩
    simp only at hi n0 n1 hS
    dsimp only [List.cons_append, List.nil_append]
    by_cases hgo : i < A.shape.length ∧ n ≤ 100000
    · obtain ⟨g1, g2⟩ := hgo
      obtain ⟨z, hz⟩ : ∃ z, A.shape[i]? = some z := ⟨_, List.getElem?_eq_getElem g1⟩
      have hzk := int_at (k := .i64) hz
      have hzr := hsm z (List.mem_of_getElem? hz)
      rw [thinS_at hz n g2] at hS
      by_cases hp : z > 0
      · rw [if_pos hp] at hS
        have m0 : 0 ≤ n * z := Int.mul_nonneg n0 hzr.1
        have m1 : n * z ≤ 100000 * 2048 := Int.mul_le_mul g2 hzr.2 hzr.1 (by omega)
        have hm : -9223372036854775808 ≤ n * z ∧ n * z ≤ 9223372036854775807 := by omega
        refine walk2 ?_
        exact ⟨(i + 1, n * z), by simp only; omega, ⟨by simp only; omega, m0, by simp only; omega, hS⟩, wkR hC.m []⟩
      · rw [if_neg hp] at hS
        refine walk2 ?_
        exact ⟨(i + 1, n), by simp only; omega, ⟨by simp only; omega, n0, n1, hS⟩, wkR hC.m []⟩
    · have hS' : thinS A.shape 1 = n := by
        rw [hS]
        by_cases g1 : i < A.shape.length
        · have g2 : ¬ n ≤ 100000 := fun h => hgo ⟨g1, h⟩
          obtain ⟨z, hz⟩ : ∃ z, A.shape[i]? = some z := ⟨_, List.getElem?_eq_getElem g1⟩
          rw [dropA_cons hz, thinS, if_neg g2]
        · rw [List.drop_eq_nil_of_le (by omega), thinS]
      rw [hS']
      have key : ∀ {st : St} {Q : Exit → St → Prop} {c : ACode}, (i < A.shape.length → ¬ n ≤ 100000) := fun {_ _ _} g1 h => hgo ⟨g1, h⟩
      by_cases hbig : n ≤ 100000
      · have g1 : ¬ i < A.shape.length := fun h => hgo ⟨h, hbig⟩
        rw [decide_eq_true hbig, Bool.true_and]
        clear key hgo
        refine walk2 ?_
        refine aw_loopB [1, 2] [0] (fun k : Nat => [(5, .lit (.int .i64 k))]) (fun _ => []) 1 (fun k => k ≤ A.cells.length ∧ thinCs A.cells = thinCs (A.cells.drop k)) (fun k => A.cells.length - k) 0 ⟨Nat.zero_le _, rfl⟩ ?_
        rintro k ⟨hk, hE⟩
        dsimp only [List.cons_append, List.nil_append]
        by_cases hlt : k < A.cells.length
        · obtain ⟨c, hc⟩ : ∃ c, A.cells[k]? = some c := ⟨_, List.getElem?_eq_getElem hlt⟩
          have hck := cell_at hc
          have hcm := List.mem_of_getElem? hc
          have lin := ins_len c
          rw [thinCs_at hc, thinC_eq] at hE
          refine walk2 ?_
          refine aw_loopB [1, 2, 5] [0] (fun j : Nat => [(6, .lit (.int .i64 j))]) (fun _ => []) 1 (fun j => j ≤ c.ins.length ∧ thinCs A.cells = (thinAs (c.ins.drop j) && thinCs (A.cells.drop (k + 1)))) (fun j => c.ins.length - j) 0 ⟨Nat.zero_le _, hE⟩ ?_
          rintro j ⟨hj, hF⟩
          dsimp only [List.cons_append, List.nil_append]
          by_cases hlj : j < c.ins.length
          · obtain ⟨x, hx⟩ : ∃ x, c.ins[j]? = some x := ⟨_, List.getElem?_eq_getElem hlj⟩
            have hxk := arr_at hx
            have hxm := List.mem_of_getElem? hx
            obtain ⟨_, _, _, cok⟩ := (cellsOK_mem.1 a4 c hcm).parts
            obtain ⟨e, _, hxr⟩ := right_in (r3' c hcm) x hxm
            have ht : SizeOf.sizeOf x < SizeOf.sizeOf A := Nat.lt_trans (arr_size hxm) (Nat.lt_trans c.size (Nat.lt_trans (cell_size hcm) A.size))
            have c1 := thin_a x e hxr (arrsOK_mem.1 cok x hxm)
            rw [thinAs_at hx] at hF
            cases h4 : thinA x
            · rw [h4] at c1
              rw [h4, Bool.false_and, Bool.false_and] at hF
              rw [hF]
              refine walk2 ?_
              exact fin
            · rw [h4] at c1
              rw [h4, Bool.true_and] at hF
              refine walk2 ?_
              exact ⟨j + 1, by omega, ⟨by omega, hF⟩, wkR hC.m []⟩
          · rw [List.drop_eq_nil_of_le (by omega), thinAs, Bool.true_and] at hF
            refine walk2 ?_
            exact ⟨k + 1, by omega, ⟨by omega, hF⟩, wkR hC.m []⟩
        · rw [List.drop_eq_nil_of_le (by omega), thinCs] at hE
          rw [hE]
          refine walk2 ?_
          exact fin
      · rw [decide_eq_false hbig, Bool.false_and]
        clear key
        by_cases g1 : i < A.shape.length
        · refine walk2 ?_
          exact fin
        · refine walk2 ?_
          exact fin
  termination_by A => SizeOf.sizeOf A

def goodA (A : Arr) : Bool := fewP A && (rightA 8 A && thinA A)
theorem good_a (A : Arr) (hA : arrOK A) : ACalls Try.prog 26 [.agg (arrV A)] (.lit (.bool (goodA A))) := by
  have c1 := few_a A hA
  have c2 := right_a 8 A 8 rfl (by omega) hA
  have c3 := thin_a A 8
  unfold goodA
  refine acalls_of code_scrimref08_Good (by simp [fn_scrimref08_Good]) fun C hC => ?_
  cases h1 : fewP A
  · rw [h1] at c1
    refine walk2 ?_
    exact fin
  rw [h1] at c1
  cases h2 : rightA 8 A
  · rw [h2] at c2
    refine walk2 ?_
    exact fin
  have c3 := c3 h2 hA
  rw [h2] at c2
  cases h3 : thinA A
  · rw [h3] at c3
    refine walk2 ?_
    exact fin
  · rw [h3] at c3
    refine walk2 ?_
    exact fin
theorem good_at (A : Arr) (hA : arrOK A) {b : Bool} (h : goodA A = b) : ACalls Try.prog 26 [.agg (arrV A)] (.lit (.bool b)) := h ▸ good_a A hA
theorem good_few {A : Arr} (h : goodA A = true) : fewP A = true := by unfold goodA at h; simp only [Bool.and_eq_true] at h; exact h.1
theorem good_right {A : Arr} (h : goodA A = true) : rightA 8 A = true := by unfold goodA at h; simp only [Bool.and_eq_true] at h; exact h.2.1
theorem right_at (d : Nat) (A : Arr) (q : Int) (hq : q = d) (hd : d ≤ 100) (hA : arrOK A) {b : Bool} (h : rightA d A = b) : ACalls Try.prog 50 [.agg (arrV A), .lit (.int .i64 q)] (.lit (.bool b)) := h ▸ right_a d A q hq hd hA
end Go.Proofs.Ytfnbhkeilcbmjaa
