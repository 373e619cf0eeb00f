/- array.equal: two arrays compared through closures. -/
import Derived.Test.YtkgnnnehmnoleaaSameP
namespace Go.Proofs.Ytkgnnnehmnoleaa
set_option linter.unusedVariables false
open Go.RowKit

/-- the captured flag -/
abbrev flagV (st : Bool) : AV := .ep 1 [[.lit (.bool st)]] 0 0

def eqL {α : Type} (p : α → α → Bool) : List α → List α → Bool
  | [], [] => true
  | x :: xs, y :: ys => p x y && eqL p xs ys
  | _, _ => false

theorem eqL_drop {α : Type} (p : α → α → Bool) {cs ds : List α} {k : Nat} {c d : α} (hc : cs[k]? = some c) (hd : ds[k]? = some d) : eqL p (cs.drop k) (ds.drop k) = (p c d && eqL p (cs.drop (k + 1)) (ds.drop (k + 1))) := by
  obtain ⟨h1, rfl⟩ := List.getElem?_eq_some_iff.1 hc
  obtain ⟨h2, rfl⟩ := List.getElem?_eq_some_iff.1 hd
  rw [List.drop_eq_getElem_cons h1, List.drop_eq_getElem_cons h2, eqL]
theorem eqL_len {α : Type} (p : α → α → Bool) : ∀ (cs ds : List α), ¬ cs.length = ds.length → eqL p cs ds = false
  | [], [], h => absurd rfl h
  | [], _ :: _, _ => rfl
  | _ :: _, [], _ => rfl
  | c :: cs, d :: ds, h => by rw [eqL, eqL_len p cs ds (by simpa using h), Bool.and_false]

theorem map_len {α β : Type} (f : α → β) (xs : List α) : ((xs.map f).length : Int) = xs.length := by simp


theorem eqCells_a (xs ys : List Cell) (F : FuncId) (st : Bool) (p : Cell → Cell → Bool) (hF : ∀ x ∈ xs, ∀ y ∈ ys, ACalls Try.prog F (.agg (cellV x) :: .agg (cellV y) :: [flagV st]) (.lit (.bool (p x y)))) :
    ACalls Try.prog 40 [.sl 7 (xs.map cellR), .sl 7 (ys.map cellR), .fn F [] [flagV st]] (.lit (.bool (eqL p xs ys))) := by
  have lx := map_len cellR xs
  have ly := map_len cellR ys
  refine acalls_of code_slices_EqualFunc_api_Cell (by simp [fn_slices_EqualFunc_api_Cell]) fun C hC => ?_
  refine aw_know 0 ((xs.map cellR).length ≤ 281474976710656) (fun E w v h => know_sl h) fun hx => ?_
  refine aw_know 1 ((ys.map cellR).length ≤ 281474976710656) (fun E w v h => know_sl h) fun hy => ?_
  by_cases hl : xs.length = ys.length
  · refine walk ?_
    refine aw_loop (X := Nat) (fun k => ⟨[(0, .sl 7 (xs.map cellR)), (1, .sl 7 (ys.map cellR)), (2, .fn F [] [flagV st]), (6, .lit (.bool false)), (15, .sl 7 (xs.map cellR)), (16, .lit (.int .i64 xs.length)), (17, .lit (.int .i64 k))], [], 0⟩) (fun k => k ≤ xs.length ∧ eqL p xs ys = eqL p (xs.drop k) (ys.drop k)) (fun k => xs.length - k) 0 (wk hC [] [0, 1, 2, 6, 15, 16, 17] 0) ⟨Nat.zero_le _, rfl⟩ ?_
    rintro k ⟨hk, hE⟩
    by_cases hlt : k < xs.length
    · obtain ⟨x, hx'⟩ : ∃ x, xs[k]? = some x := ⟨_, List.getElem?_eq_getElem hlt⟩
      obtain ⟨y, hy'⟩ : ∃ y, ys[k]? = some y := ⟨_, List.getElem?_eq_getElem (by omega)⟩
      have hxk := cell_at hx'
      have hyk := cell_at hy'
      rw [eqL_drop p hx' hy'] at hE
      refine walk ?_
      refine aw_reg (rrun ?_)
      refine r_call (hF x (List.mem_of_getElem? hx') y (List.mem_of_getElem? hy')) ?_
      cases h4 : p x y
      · rw [h4, Bool.false_and] at hE
        rw [hE]
        refine rrun ?_
        refine rg_nil ⟨rfl, ?_⟩
        refine walk ?_
        exact ⟨_, _, rfl, rfl, Sub.refl _⟩
      · rw [h4, Bool.true_and] at hE
        refine rrun ?_
        refine rg_nil ⟨rfl, ?_⟩
        refine walk ?_
        exact ⟨k + 1, by omega, ⟨by omega, hE⟩, wk hC [] [0, 1, 2, 6, 15, 16, 17] 0⟩
    · rw [List.drop_eq_nil_of_le (by omega), List.drop_eq_nil_of_le (by omega), eqL] at hE
      rw [hE]
      refine walk ?_
      exact ⟨_, _, rfl, rfl, Sub.refl _⟩
  · rw [eqL_len p _ _ hl]
    refine walk ?_
    exact ⟨_, _, rfl, rfl, Sub.refl _⟩

theorem eqArrs_a (xs ys : List Arr) (F : FuncId) (st : Bool) (p : Arr → Arr → Bool) (hF : ∀ x ∈ xs, ∀ y ∈ ys, ACalls Try.prog F (.agg (arrV x) :: .agg (arrV y) :: [flagV st]) (.lit (.bool (p x y)))) :
    ACalls Try.prog 43 [.sl 3 (xs.map arrR), .sl 3 (ys.map arrR), .fn F [] [flagV st]] (.lit (.bool (eqL p xs ys))) := by
  have lx := map_len arrR xs
  have ly := map_len arrR ys
  refine acalls_of code_slices_EqualFunc_api_Array (by simp [fn_slices_EqualFunc_api_Array]) fun C hC => ?_
  refine aw_know 0 ((xs.map arrR).length ≤ 281474976710656) (fun E w v h => know_sl h) fun hx => ?_
  refine aw_know 1 ((ys.map arrR).length ≤ 281474976710656) (fun E w v h => know_sl h) fun hy => ?_
  by_cases hl : xs.length = ys.length
  · refine walk ?_
    refine aw_loop (X := Nat) (fun k => ⟨[(0, .sl 3 (xs.map arrR)), (1, .sl 3 (ys.map arrR)), (2, .fn F [] [flagV st]), (6, .lit (.bool false)), (15, .sl 3 (xs.map arrR)), (16, .lit (.int .i64 xs.length)), (17, .lit (.int .i64 k))], [], 0⟩) (fun k => k ≤ xs.length ∧ eqL p xs ys = eqL p (xs.drop k) (ys.drop k)) (fun k => xs.length - k) 0 (wk hC [] [0, 1, 2, 6, 15, 16, 17] 0) ⟨Nat.zero_le _, rfl⟩ ?_
    rintro k ⟨hk, hE⟩
    by_cases hlt : k < xs.length
    · obtain ⟨x, hx'⟩ : ∃ x, xs[k]? = some x := ⟨_, List.getElem?_eq_getElem hlt⟩
      obtain ⟨y, hy'⟩ : ∃ y, ys[k]? = some y := ⟨_, List.getElem?_eq_getElem (by omega)⟩
      have hxk := arr_at hx'
      have hyk := arr_at hy'
      rw [eqL_drop p hx' hy'] at hE
      refine walk ?_
      refine aw_reg (rrun ?_)
      refine r_call (hF x (List.mem_of_getElem? hx') y (List.mem_of_getElem? hy')) ?_
      cases h4 : p x y
      · rw [h4, Bool.false_and] at hE
        rw [hE]
        refine rrun ?_
        refine rg_nil ⟨rfl, ?_⟩
        refine walk ?_
        exact ⟨_, _, rfl, rfl, Sub.refl _⟩
      · rw [h4, Bool.true_and] at hE
        refine rrun ?_
        refine rg_nil ⟨rfl, ?_⟩
        refine walk ?_
        exact ⟨k + 1, by omega, ⟨by omega, hE⟩, wk hC [] [0, 1, 2, 6, 15, 16, 17] 0⟩
    · rw [List.drop_eq_nil_of_le (by omega), List.drop_eq_nil_of_le (by omega), eqL] at hE
      rw [hE]
      refine walk ?_
      exact ⟨_, _, rfl, rfl, Sub.refl _⟩
  · rw [eqL_len p _ _ hl]
    refine walk ?_
    exact ⟨_, _, rfl, rfl, Sub.refl _⟩

mutual
/-- the same, the labels too when st says so -/
def eqvA (st : Bool) : Arr → Arr → Bool
  | .mk s sh cs, .mk s2 sh2 cs2 => (!st || s == s2) && (intsP sh sh2 && eqvCs st cs cs2)
def eqvCs (st : Bool) : List Cell → List Cell → Bool
  | [], [] => true
  | c :: cs, d :: ds => eqvC st c d && eqvCs st cs ds
  | _, _ => false
def eqvC (st : Bool) : Cell → Cell → Bool
  | .mk l k n c ins, .mk l2 k2 n2 c2 ins2 => (!st || l == l2) && ((k == k2) && ((c == c2) && (numP n n2 && eqvAs st ins ins2)))
def eqvAs (st : Bool) : List Arr → List Arr → Bool
  | [], [] => true
  | c :: cs, d :: ds => eqvA st c d && eqvAs st cs ds
  | _, _ => false
end

theorem eqvCs_eqL (st : Bool) : ∀ (cs ds : List Cell), eqvCs st cs ds = eqL (eqvC st) cs ds
  | [], [] => by simp [eqvCs, eqL]
  | [], _ :: _ => by simp [eqvCs, eqL]
  | _ :: _, [] => by simp [eqvCs, eqL]
  | c :: cs, d :: ds => by rw [eqvCs, eqL, eqvCs_eqL st cs ds]
theorem eqvAs_eqL (st : Bool) : ∀ (cs ds : List Arr), eqvAs st cs ds = eqL (eqvA st) cs ds
  | [], [] => by simp [eqvAs, eqL]
  | [], _ :: _ => by simp [eqvAs, eqL]
  | _ :: _, [] => by simp [eqvAs, eqL]
  | c :: cs, d :: ds => by rw [eqvAs, eqL, eqvAs_eqL st cs ds]

theorem eqvA_eq (st : Bool) (A B : Arr) : eqvA st A B = ((!st || A.s == B.s) && (intsP A.shape B.shape && eqL (eqvC st) A.cells B.cells)) := by cases A; cases B; simp only [eqvA, Arr.s, Arr.shape, Arr.cells, eqvCs_eqL]
theorem eqvC_eq (st : Bool) (c d : Cell) : eqvC st c d = ((!st || c.l == d.l) && ((c.kind == d.kind) && ((c.c == d.c) && (numP c.n d.n && eqL (eqvA st) c.ins d.ins)))) := by cases c; cases d; simp only [eqvC, Cell.l, Cell.kind, Cell.c, Cell.n, Cell.ins, eqvAs_eqL]

mutual
theorem eqvA_same : ∀ (A B : Arr), eqvA true A B = sameA A B
  | .mk s sh cs, .mk s2 sh2 cs2 => by rw [eqvA, sameA, eqvCs_same cs cs2]; rfl
theorem eqvCs_same : ∀ (cs ds : List Cell), eqvCs true cs ds = sameCs cs ds
  | [], [] => by simp [eqvCs, sameCs]
  | [], _ :: _ => by simp [eqvCs, sameCs]
  | _ :: _, [] => by simp [eqvCs, sameCs]
  | c :: cs, d :: ds => by rw [eqvCs, sameCs, eqvC_same c d, eqvCs_same cs ds]
theorem eqvC_same : ∀ (c d : Cell), eqvC true c d = sameC c d
  | .mk l k n c ins, .mk l2 k2 n2 c2 ins2 => by rw [eqvC, sameC, eqvAs_same ins ins2]; rfl
theorem eqvAs_same : ∀ (cs ds : List Arr), eqvAs true cs ds = sameAs cs ds
  | [], [] => by simp [eqvAs, sameAs]
  | [], _ :: _ => by simp [eqvAs, sameAs]
  | _ :: _, [] => by simp [eqvAs, sameAs]
  | c :: cs, d :: ds => by rw [eqvAs, sameAs, eqvA_same c d, eqvAs_same cs ds]
end

theorem flag_no {st : Bool} {a b : Nat} (h : false = (!st || a == b)) : st = true ∧ ¬ a = b := by
  cases st
  · cases h
  · exact ⟨rfl, fun e => by simp [e] at h⟩
theorem flag_yes {st : Bool} {a b : Nat} (h : true = (!st || a == b)) : st = false ∨ (st = true ∧ a = b) := by
  cases st
  · exact .inl rfl
  · exact .inr ⟨rfl, by simpa using h⟩

mutual
theorem equal_a (st : Bool) : ∀ (A B : Arr), ACalls Try.prog 30 [.agg (arrV A), .agg (arrV B), .lit (.bool st)] (.lit (.bool (eqvA st A B)))
  | A, B => by
    have sub : ∀ x ∈ A.cells, ∀ y ∈ B.cells, ACalls Try.prog 41 [.agg (cellV x), .agg (cellV y), flagV st] (.lit (.bool (eqvC st x y))) := fun x hx y hy => by
      have ht : SizeOf.sizeOf x < SizeOf.sizeOf A := Nat.lt_trans (cell_size hx) A.size
      exact equal1_a st x y
    refine acalls_of code_array_equal (by simp [fn_array_equal]) fun C hC => ?_
    rw [eqvA_eq]
    have key : ∀ (b : Bool), b = (!st || A.s == B.s) → AW Try.prog C fn_array_equal.body (retQ fn_array_equal.res (.lit (.bool (b && (intsP A.shape B.shape && eqL (eqvC st) A.cells B.cells))))) ⟨argT 0 [.agg (arrV A), .agg (arrV B), .lit (.bool st)], [], 0⟩ := by
      intro b hb
      cases b
      · obtain ⟨rfl, hne⟩ : st = true ∧ ¬ A.s = B.s := flag_no hb
        refine walk ?_
        exact ⟨_, _, rfl, rfl, Sub.refl _⟩
      · rw [Bool.true_and]
        have rest : st = false ∨ (st = true ∧ A.s = B.s) := flag_yes hb
        rcases rest with rfl | ⟨rfl, he⟩
        · refine walk ?_
          refine aw_reg (rrun ?_)
          refine r_call (equalInt_a A.shape B.shape) ?_
          cases h2 : intsP A.shape B.shape
          · refine rrun ?_
            refine rg_nil ⟨rfl, ?_⟩
            refine walk ?_
            exact ⟨_, _, rfl, rfl, Sub.refl _⟩
          · rw [Bool.true_and]
            refine rrun ?_
            refine rg_nil ⟨rfl, ?_⟩
            refine walk ?_
            refine aw_reg (rrun ?_)
            refine r_callX false [2] (eqCells_a A.cells B.cells _ false _ sub) (rrun ?_)
            refine rg_nil ⟨rfl, ?_⟩
            refine walk ?_
            exact ⟨_, _, rfl, rfl, Sub.refl _⟩
        · refine walk ?_
          refine aw_reg (rrun ?_)
          refine r_call (equalInt_a A.shape B.shape) ?_
          cases h2 : intsP A.shape B.shape
          · refine rrun ?_
            refine rg_nil ⟨rfl, ?_⟩
            refine walk ?_
            exact ⟨_, _, rfl, rfl, Sub.refl _⟩
          · rw [Bool.true_and]
            refine rrun ?_
            refine rg_nil ⟨rfl, ?_⟩
            refine walk ?_
            refine aw_reg (rrun ?_)
            refine r_callX false [2] (eqCells_a A.cells B.cells _ true _ sub) (rrun ?_)
            refine rg_nil ⟨rfl, ?_⟩
            refine walk ?_
            exact ⟨_, _, rfl, rfl, Sub.refl _⟩
    exact key _ rfl
  termination_by A => SizeOf.sizeOf A
theorem equal1_a (st : Bool) : ∀ (A B : Cell), ACalls Try.prog 41 [.agg (cellV A), .agg (cellV B), flagV st] (.lit (.bool (eqvC st A B)))
  | A, B => by
    have sub : ∀ x ∈ A.ins, ∀ y ∈ B.ins, ACalls Try.prog 44 [.agg (arrV x), .agg (arrV y), flagV st] (.lit (.bool (eqvA st x y))) := fun x hx y hy => by
      have ht : SizeOf.sizeOf x < SizeOf.sizeOf A := Nat.lt_trans (arr_size hx) A.size
      have rec_ := equal_a st x y
      refine acalls_of code_array_equal_1_1 (by simp [fn_array_equal_1_1]) fun C hC => ?_
      refine walk ?_
      refine aw_reg (rrun ?_)
      refine r_call rec_ (rrun ?_)
      refine rg_nil ⟨rfl, ?_⟩
      refine walk ?_
      exact ⟨_, _, rfl, rfl, Sub.refl _⟩
    refine acalls_of code_array_equal_1 (by simp [fn_array_equal_1]) fun C hC => ?_
    rw [eqvC_eq]
    have key : ∀ (b : Bool), b = (!st || A.l == B.l) → AW Try.prog C fn_array_equal_1.body (retQ fn_array_equal_1.res (.lit (.bool (b && ((A.kind == B.kind) && ((A.c == B.c) && (numP A.n B.n && eqL (eqvA st) A.ins B.ins))))))) ⟨argT 0 [.agg (cellV A), .agg (cellV B), flagV st], [], 0⟩ := by
      intro b hb
      cases b
      · obtain ⟨rfl, hne⟩ : st = true ∧ ¬ A.l = B.l := flag_no hb
        refine walk ?_
        exact ⟨_, _, rfl, rfl, Sub.refl _⟩
      · rw [Bool.true_and]
        by_cases h5 : A.kind = B.kind
        · rw [h5, beq_self_eq_true, Bool.true_and]
          by_cases h6 : A.c = B.c
          · rw [h6, beq_self_eq_true, Bool.true_and]
            have rest : st = false ∨ (st = true ∧ A.l = B.l) := flag_yes hb
            rcases rest with rfl | ⟨rfl, he⟩
            · refine walk ?_
              refine aw_reg (rrun ?_)
              refine r_call (num_a A.n B.n) ?_
              cases h2 : numP A.n B.n
              · refine rrun ?_
                refine rg_nil ⟨rfl, ?_⟩
                refine walk ?_
                exact ⟨_, _, rfl, rfl, Sub.refl _⟩
              · rw [Bool.true_and]
                refine rrun ?_
                refine rg_nil ⟨rfl, ?_⟩
                refine walk ?_
                refine aw_reg (rrun ?_)
                refine r_call (eqArrs_a A.ins B.ins _ false _ sub) (rrun ?_)
                refine rg_nil ⟨rfl, ?_⟩
                refine walk ?_
                exact ⟨_, _, rfl, rfl, Sub.refl _⟩
            · refine walk ?_
              refine aw_reg (rrun ?_)
              refine r_call (num_a A.n B.n) ?_
              cases h2 : numP A.n B.n
              · refine rrun ?_
                refine rg_nil ⟨rfl, ?_⟩
                refine walk ?_
                exact ⟨_, _, rfl, rfl, Sub.refl _⟩
              · rw [Bool.true_and]
                refine rrun ?_
                refine rg_nil ⟨rfl, ?_⟩
                refine walk ?_
                refine aw_reg (rrun ?_)
                refine r_call (eqArrs_a A.ins B.ins _ true _ sub) (rrun ?_)
                refine rg_nil ⟨rfl, ?_⟩
                refine walk ?_
                exact ⟨_, _, rfl, rfl, Sub.refl _⟩
          · rw [int_beq_ne h6, Bool.false_and]
            have rest : st = false ∨ (st = true ∧ A.l = B.l) := flag_yes hb
            rcases rest with rfl | ⟨rfl, he⟩ <;> (refine walk ?_; exact ⟨_, _, rfl, rfl, Sub.refl _⟩)
        · rw [int_beq_ne h5, Bool.false_and]
          have rest : st = false ∨ (st = true ∧ A.l = B.l) := flag_yes hb
          rcases rest with rfl | ⟨rfl, he⟩ <;> (refine walk ?_; exact ⟨_, _, rfl, rfl, Sub.refl _⟩)
    exact key _ rfl
  termination_by A => SizeOf.sizeOf A
end

theorem arraySame_a (A B : Arr) : ACalls Try.prog 18 [.agg (arrV A), .agg (arrV B)] (.lit (.bool (sameA A B))) := by
  rw [← eqvA_same]
  refine acalls_of code_array_Same (by simp [fn_array_Same]) fun C hC => ?_
  refine walk ?_
  refine aw_reg (rrun ?_)
  refine r_call (equal_a true A B) (rrun ?_)
  refine rg_nil ⟨rfl, ?_⟩
  refine walk ?_
  exact ⟨_, _, rfl, rfl, Sub.refl _⟩
end Go.Proofs.Ytkgnnnehmnoleaa
