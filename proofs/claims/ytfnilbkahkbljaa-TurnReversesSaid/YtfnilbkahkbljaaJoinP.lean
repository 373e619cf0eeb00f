/- Arrays put together: what the program's functions answer. -/
import Derived.Test.YtfnilbkahkbljaaCodeJ
import Derived.Test.YtfnilbkahkbljaaCodeD
import Derived.Test.YtfnilbkahkbljaaShC
import Derived.Test.YtfnilbkahkbljaaJoinQ
import Derived.Test.YtfnilbkahkbljaaLabA
import Derived.Test.YtfnilbkahkbljaaAbsZ
namespace Go.Proofs.Ytfnilbkahkbljaa
set_option linter.unusedVariables false
open Go.RowKit

def blkV (s : List Int) (cs : List Cell) (al : Bool) : List AV := [.sl 1 (intsA .i64 s), .sl 7 (cs.map cellR), .lit (.bool al)]

/-- the shape that an array counts with; is it a single cell? -/
def widP (sh other : List Int) (axes axis : Nat) : Option (List Int × Bool) :=
  if sh.length = axes then some (sh, false)
  else if sh = [] then (if other = [] then some ([1], true) else some (other.set axis 1, true))
  else if sh.length + 1 = axes then some (sh.take axis ++ 1 :: sh.drop axis, false)
  else none

theorem widen_same (A : Arr) (other : List Int) (axes axis : Nat) (hl : A.shape.length ≤ 6) (h1 : A.shape.length = axes) :
    ACalls Try.prog 116 [.agg (arrV A), .sl 1 (intsA .i64 other), .lit (.int .i64 axes), .lit (.int .i64 axis)] (.tup [.agg (blkV A.shape A.cells false), .lit (.bool true)]) := by
  have ls := intsA_len .i64 A.shape
  have hb : (0 + (intsA .i64 A.shape).length) * 8 ≤ 140737488355328 := by omega
  refine acalls_of code_join_widen (by simp [fn_join_widen]) fun C hC => ?_
  refine walk2 ?_
  exact fin

theorem widen_none (A : Arr) (other : List Int) (axes axis : Nat) (hl : A.shape.length ≤ 6) (h6 : axes ≤ 6) (h1 : A.shape.length ≠ axes) (h2 : A.shape.length ≠ 0) (h3 : A.shape.length + 1 ≠ axes) :
    ACalls Try.prog 116 [.agg (arrV A), .sl 1 (intsA .i64 other), .lit (.int .i64 axes), .lit (.int .i64 axis)] (.tup [.agg [.sl 1 [], .sl 7 [], .lit (.bool false)], .lit (.bool false)]) := by
  have ls := intsA_len .i64 A.shape
  refine acalls_of code_join_widen (by simp [fn_join_widen]) fun C hC => ?_
  refine walk2 ?_
  exact fin

theorem widen_less (A : Arr) (other : List Int) (axes axis : Nat) (hl : A.shape.length ≤ 6) (h6 : axes ≤ 6) (h2 : A.shape.length ≠ 0) (h3 : A.shape.length + 1 = axes) (hx : axis < axes) :
    ACalls Try.prog 116 [.agg (arrV A), .sl 1 (intsA .i64 other), .lit (.int .i64 axes), .lit (.int .i64 axis)] (.tup [.agg (blkV (A.shape.take axis ++ 1 :: A.shape.drop axis) A.cells false), .lit (.bool true)]) := by
  have ls := intsA_len .i64 A.shape
  have k1 := Cut.upto (k := .i64) (s := A.shape) (b := axis) (by omega)
  have k2 := Cut.from (k := .i64) (s := A.shape) (a := axis) (by omega)
  have l1 := intsA_len .i64 (A.shape.take axis)
  have l2 := intsA_len .i64 (A.shape.drop axis)
  rw [List.length_take] at l1
  rw [List.length_drop] at l2
  have hb1 : (0 + (intsA .i64 (A.shape.take axis)).length) * 8 ≤ 140737488355328 := by omega
  have hb2 : ((intsA .i64 (A.shape.take axis)).length + 1) * 8 ≤ 140737488355328 := by omega
  have hb3 : ((intsA .i64 (A.shape.take axis)).length + 1 + (intsA .i64 (A.shape.drop axis)).length) * 8 ≤ 140737488355328 := by omega
  refine acalls_of code_join_widen (by simp [fn_join_widen]) fun C hC => ?_
  refine walk2 ?_
  unfold blkV
  rw [show intsA .i64 (A.shape.take axis ++ 1 :: A.shape.drop axis) = (intsA .i64 (A.shape.take axis) ++ [[.lit (.int .i64 1)]]) ++ intsA .i64 (A.shape.drop axis) from by simp [intsA]]
  exact fin

theorem widen_zero1 (A : Arr) (axis : Nat) (h2 : A.shape = []) :
    ACalls Try.prog 116 [.agg (arrV A), .sl 1 (intsA .i64 []), .lit (.int .i64 1), .lit (.int .i64 axis)] (.tup [.agg (blkV [1] A.cells true), .lit (.bool true)]) := by
  have ls := intsA_len .i64 A.shape
  rw [h2] at ls
  refine acalls_of code_join_widen (by simp [fn_join_widen]) fun C hC => ?_
  unfold arrV
  rw [h2]
  refine walk2 ?_
  exact fin

theorem widen_zero (A : Arr) (other : List Int) (axes axis : Nat) (h6 : axes ≤ 6) (h2 : A.shape = []) (h3 : other.length = axes) (hx : axis < axes) :
    ACalls Try.prog 116 [.agg (arrV A), .sl 1 (intsA .i64 other), .lit (.int .i64 axes), .lit (.int .i64 axis)] (.tup [.agg (blkV (other.set axis 1) A.cells true), .lit (.bool true)]) := by
  have ls : (((intsA .i64 []).length : Nat) : Int) = 0 := rfl
  have lo := intsA_len .i64 other
  obtain ⟨z, hz⟩ : ∃ z, other[axis]? = some z := ⟨_, List.getElem?_eq_getElem (by omega)⟩
  have hzk : ([] ++ intsA .i64 other)[((axis : Nat) : Int).toNat]? = some [.lit (.int .i64 z)] := int_at (k := .i64) hz
  have hset := intsA_set .i64 other axis 1
  have hb : (0 + (intsA .i64 other).length) * 8 ≤ 140737488355328 := by omega
  refine acalls_of code_join_widen (by simp [fn_join_widen]) fun C hC => ?_
  unfold arrV
  rw [h2]
  refine walk2 ?_
  unfold blkV
  rw [← hset]
  exact fin

def pairV (s : List Int) (cs : List Cell) (al : Bool) (t : List Int) (ds : List Cell) (bl : Bool) (x : Nat) : List AV := [.sl 1 (intsA .i64 s), .sl 7 (cs.map cellR), .lit (.bool al), .sl 1 (intsA .i64 t), .sl 7 (ds.map cellR), .lit (.bool bl), .lit (.int .i64 (x : Nat))]

def axN (A B : Arr) : Nat := max (max A.shape.length B.shape.length) 1
def atN (A B : Arr) (first : Bool) : Nat := if first then 0 else axN A B - 1

theorem widen_a (A B : Arr) (hl : A.shape.length ≤ 6) (hm : B.shape.length ≤ 6) (n x : Nat) (hn : n = axN A B) (hx : x < n) :
    (∀ s al, widP A.shape B.shape n x = some (s, al) → ACalls Try.prog 116 [.agg (arrV A), .sl 1 (intsA .i64 B.shape), .lit (.int .i64 n), .lit (.int .i64 x)] (.tup [.agg (blkV s A.cells al), .lit (.bool true)])) ∧
    (widP A.shape B.shape n x = none → ACalls Try.prog 116 [.agg (arrV A), .sl 1 (intsA .i64 B.shape), .lit (.int .i64 n), .lit (.int .i64 x)] (.tup [.agg [.sl 1 [], .sl 7 [], .lit (.bool false)], .lit (.bool false)])) := by
  have hn1 : A.shape.length ≤ n ∧ B.shape.length ≤ n ∧ 1 ≤ n ∧ n ≤ 6 ∧ (A.shape.length = 0 → B.shape.length = 0 → n = 1) ∧ (A.shape.length = 0 → B.shape.length ≠ 0 → n = B.shape.length) := by unfold axN at hn; omega
  unfold widP
  by_cases h1 : A.shape.length = n
  · rw [if_pos h1]
    refine ⟨fun s al h => ?_, fun h => by cases h⟩
    simp only [Option.some.injEq, Prod.mk.injEq] at h
    obtain ⟨rfl, rfl⟩ := h
    exact widen_same A B.shape n x hl h1
  · rw [if_neg h1]
    by_cases h2 : A.shape = []
    · rw [if_pos h2]
      have hA0 : A.shape.length = 0 := by rw [h2]; rfl
      by_cases h3 : B.shape = []
      · rw [if_pos h3]
        refine ⟨fun s al h => ?_, fun h => by cases h⟩
        simp only [Option.some.injEq, Prod.mk.injEq] at h
        obtain ⟨rfl, rfl⟩ := h
        have e : n = 1 := hn1.2.2.2.2.1 hA0 (by rw [h3]; rfl)
        rw [h3, e]
        exact widen_zero1 A x h2
      · rw [if_neg h3]
        refine ⟨fun s al h => ?_, fun h => by cases h⟩
        simp only [Option.some.injEq, Prod.mk.injEq] at h
        obtain ⟨rfl, rfl⟩ := h
        have e : n = B.shape.length := hn1.2.2.2.2.2 hA0 (fun h => h3 (List.eq_nil_of_length_eq_zero h))
        exact widen_zero A B.shape n x (by omega) h2 e.symm hx
    · rw [if_neg h2]
      have h2' : A.shape.length ≠ 0 := fun h => h2 (List.eq_nil_of_length_eq_zero h)
      by_cases h3 : A.shape.length + 1 = n
      · rw [if_pos h3]
        refine ⟨fun s al h => ?_, fun h => by cases h⟩
        simp only [Option.some.injEq, Prod.mk.injEq] at h
        obtain ⟨rfl, rfl⟩ := h
        exact widen_less A B.shape n x hl (by omega) h2' h3 hx
      · rw [if_neg h3]
        exact ⟨fun s al h => (by cases h), fun _ => widen_none A B.shape n x hl (by omega) h1 h2' h3⟩

theorem axN_comm (A B : Arr) : axN A B = axN B A := by unfold axN; omega

def zPair : AV := .agg [.sl 1 [], .sl 7 [], .lit (.bool false), .sl 1 [], .sl 7 [], .lit (.bool false), .lit (.int .i64 0)]

set_option maxHeartbeats 2000000 in
theorem fit_a (A B : Arr) (first : Bool) (hl : A.shape.length ≤ 6) (hm : B.shape.length ≤ 6) :
    ACalls Try.prog 67 [.agg (arrV A), .agg (arrV B), .lit (.bool first)] (match widP A.shape B.shape (axN A B) (atN A B first), widP B.shape A.shape (axN A B) (atN A B first) with
      | some (s, al), some (t, bl) => .tup [.agg (pairV s A.cells al t B.cells bl (atN A B first)), .lit (.int .i64 0)]
      | _, _ => .tup [zPair, .lit (.int .i64 5)]) := by
  have ls := intsA_len .i64 A.shape
  have lt := intsA_len .i64 B.shape
  have hx : atN A B first < axN A B := by unfold atN axN; split <;> omega
  have w1 := widen_a A B hl hm (axN A B) (atN A B first) rfl hx
  have w2 := widen_a B A hm hl (axN A B) (atN A B first) (axN_comm A B) hx
  have hmx : max (max (A.shape.length : Int) (B.shape.length : Int)) 1 = ((axN A B : Nat) : Int) := by unfold axN; omega
  have hax : axN A B ≤ 6 := by unfold axN; omega
  have hpos : 1 ≤ axN A B := by unfold axN; omega
  have key : ∀ x : Nat, x = atN A B first → ((x : Nat) : Int) = if first then 0 else ((axN A B : Nat) : Int) - 1 := fun x hx => by
    rw [hx]; unfold atN; cases first
    · simp; omega
    · simp
  have hk := key _ rfl
  generalize axN A B = n at *
  generalize atN A B first = x at *
  cases h1 : widP A.shape B.shape n x with
  | none =>
    have c1 := w1.2 h1
    rw [hk] at c1
    refine acalls_of code_join_fit (by simp [fn_join_fit]) fun C hC => ?_
    cases first
    · simp only [Bool.false_eq_true, if_false] at c1
      refine walk2 ?_
      exact fin
    · simp only [if_true] at c1
      refine walk2 ?_
      exact fin
  | some p =>
    obtain ⟨s, al⟩ := p
    have c1 := w1.1 s al h1
    cases h2 : widP B.shape A.shape n x with
    | none =>
      have c2 := w2.2 h2
      rw [hk] at c1 c2
      refine acalls_of code_join_fit (by simp [fn_join_fit]) fun C hC => ?_
      cases first
      · simp only [Bool.false_eq_true, if_false] at c1 c2
        refine walk2 ?_
        exact fin
      · simp only [if_true] at c1 c2
        refine walk2 ?_
        exact fin
    | some q =>
      obtain ⟨t, bl⟩ := q
      have c2 := w2.1 t bl h2
      refine acalls_of code_join_fit (by simp [fn_join_fit]) fun C hC => ?_
      unfold pairV
      rw [hk] at c1 c2 ⊢
      cases first
      · simp only [Bool.false_eq_true, if_false] at c1 c2 ⊢
        refine walk2 ?_
        exact fin
      · simp only [if_true] at c1 c2 ⊢
        refine walk2 ?_
        exact fin

theorem row_alone (s : List Int) (cs : List Cell) (es : List (List AV)) (i n : Nat) (c : Cell) (hc : cs[0]? = some c) (hn : n ≤ 1000000000) (he : es.length ≤ 100000000000) (hi : i ≤ 1000000000) :
    AMut Try.prog 118 [.agg (blkV s cs true), .own 0, .lit (.int .i64 i), .lit (.int .i64 n)] [(0, some ⟨true, false, 76, 7, es⟩)] 1 (.own 1) [(1, some ⟨true, false, 76, 7, es ++ (rowL true cs i n).map cellR⟩), (0, none)] 2 := by
  have e : (rowL true cs i n).map cellR = List.replicate n (cellV c) := by
    unfold rowL
    rw [if_pos rfl, List.map_replicate, List.getD_eq_getElem?_getD, hc]
    simp [cellR_eq]
  rw [e]
  have hcv : (cs.map cellR)[(0 : Int).toNat]? = some (cellV c) := cell_at hc
  have hcl : 0 < ((cs.map cellR).length : Int) := by
    have := (List.getElem?_eq_some_iff.1 hc).1
    simp; omega
  refine amut_of code_join_block_row (by simp [fn_join_block_row]) fun C hC => ?_
  refine walk2 ?_
  refine aw_name 1 0 rfl rfl rfl rfl ?_
  refine aw_loopB [4, 25] [0, 1] (fun k : Nat => [(1, .own 2), (26, .lit (.int .i64 k))]) (fun k => [(2, some ⟨true, false, 76, 7, es ++ List.replicate k (cellV c)⟩)]) 3 (fun k => k ≤ n) (fun k => n - k) 0 (Nat.zero_le _) ?_ (hh := by rw [List.replicate_zero, List.append_nil]; rfl)
  rintro k hk
  dsimp only [List.cons_append, List.nil_append]
  have hlr : (es ++ List.replicate k (cellV c)).length = es.length + k := by simp
  have hrs : (es ++ List.replicate k (cellV c)) ++ [cellV c] = es ++ List.replicate (k + 1) (cellV c) := by rw [List.append_assoc, List.replicate_succ']
  by_cases hkn : k < n
  · generalize es ++ List.replicate k (cellV c) = Y at hlr hrs ⊢
    refine walk2 ?_
    refine ⟨k + 1, by omega, by omega, wkR hC.m [(2, 4)] ?_⟩
    rw [← hrs]
    rfl
  · have h0 : n = k := by omega
    subst h0
    refine walk2 ?_
    exact fin_m [(1, 2)]

theorem row_plain (s : List Int) (cs : List Cell) (es : List (List AV)) (i n : Nat) (hn : n ≤ 1000000000) (he : es.length ≤ 100000000000) (hi : i ≤ 1000000000) (h : i * n + n ≤ cs.length) (hcb : cs.length ≤ 1000000000) :
    AMut Try.prog 118 [.agg (blkV s cs false), .own 0, .lit (.int .i64 i), .lit (.int .i64 n)] [(0, some ⟨true, false, 76, 7, es⟩)] 1 (.own 1) [(1, some ⟨true, false, 76, 7, es ++ (rowL false cs i n).map cellR⟩), (0, none)] 2 := by
  unfold rowL
  rw [if_neg (by simp)]
  have hk := Cut.map (f := cellR) (s := cs) (a := i * n) (b := i * n + n) (by omega) h
  rw [Nat.add_sub_cancel_left] at hk
  generalize hY : ((cs.drop (i * n)).take n).map cellR = Y at hk ⊢
  have hYl : Y.length ≤ n := by rw [← hY]; simp; omega
  have hb : (es.length + Y.length) * 104 ≤ 140737488355328 := by omega
  have hm : -9223372036854775808 ≤ (i : Int) * n ∧ (i : Int) * n ≤ 9223372036854775807 := by rw [← Int.natCast_mul]; omega
  have hm2 : -9223372036854775808 ≤ (i : Int) * n + n ∧ (i : Int) * n + n ≤ 9223372036854775807 := by rw [← Int.natCast_mul]; omega
  refine amut_of code_join_block_row (by simp [fn_join_block_row]) fun C hC => ?_
  refine walk2 ?_
  exact fin_m [(1, 2)]

theorem row_m (s : List Int) (cs : List Cell) (es : List (List AV)) (al : Bool) (i n : Nat) (hn : n ≤ 1000000000) (he : es.length ≤ 100000000000) (hi : i ≤ 1000000000) (h : al = false → i * n + n ≤ cs.length) (h' : al = true → 0 < cs.length) (hcb : cs.length ≤ 1000000000) :
    AMut Try.prog 118 [.agg (blkV s cs al), .own 0, .lit (.int .i64 i), .lit (.int .i64 n)] [(0, some ⟨true, false, 76, 7, es⟩)] 1 (.own 1) [(1, some ⟨true, false, 76, 7, es ++ (rowL al cs i n).map cellR⟩), (0, none)] 2 := by
  cases al
  · exact row_plain s cs es i n hn he hi (h rfl) hcb
  · exact row_alone s cs es i n _ (List.getElem?_eq_getElem (h' rfl)) hn he hi

theorem rowL_len (al : Bool) (cs : List Cell) (i n : Nat) : (rowL al cs i n).length ≤ n := by
  unfold rowL; split <;> simp <;> omega

set_option maxHeartbeats 1000000 in
theorem merge_a (s t u : List Int) (cs ds : List Cell) (al bl : Bool) (x n1 n2 A B : Nat) (hs : s[x]? = some (n1 : Int)) (ht : t[x]? = some (n2 : Int)) (hu : (cnt u).2 = 0) (hz : u[x]? = some ((n1 + n2 : Nat) : Int))
    (hA : prodC (u.take x) 1 = A) (hB : prodC (u.drop (x + 1)) 1 = B) (bA : A ≤ 2048) (bB : B ≤ 2048) (b1 : n1 ≤ 2048) (b2 : n2 ≤ 2048) (hc : al = true → 0 < cs.length) (hd : bl = true → 0 < ds.length) (hc2 : al = false → A * (n1 * B) ≤ cs.length) (hd2 : bl = false → A * (n2 * B) ≤ ds.length)
    (hcb : cs.length ≤ 1000000000) (hdb : ds.length ≤ 1000000000) :
    ACalls Try.prog 70 [.agg (pairV s cs al t ds bl x), .sl 1 (intsA .i64 u)] (.sl 7 ((catL (n1 * B) (n2 * B) al cs bl ds (A * (n1 * B + n2 * B))).map cellR)) := by
  have ls := intsA_len .i64 s
  have lt := intsA_len .i64 t
  have c3 := shAround_a u x _ hu hz
  rw [hA, hB] at c3
  have hsx : (intsA .i64 s)[((x : Nat) : Int).toNat]? = some [.lit (.int .i64 (n1 : Int))] := int_at hs
  have htx : (intsA .i64 t)[((x : Nat) : Int).toNat]? = some [.lit (.int .i64 (n2 : Int))] := int_at ht
  have lsx := (List.getElem?_eq_some_iff.1 hs).1
  have ltx := (List.getElem?_eq_some_iff.1 ht).1
  have m1 : n1 * B ≤ 2048 * 2048 := Nat.mul_le_mul b1 bB
  have m2 : n2 * B ≤ 2048 * 2048 := Nat.mul_le_mul b2 bB
  have e1 : (n1 : Int) * B = ((n1 * B : Nat) : Int) := by simp
  have e2 : (n2 : Int) * B = ((n2 * B : Nat) : Int) := by simp
  have hm1 : -9223372036854775808 ≤ (n1 : Int) * B ∧ (n1 : Int) * B ≤ 9223372036854775807 := by rw [e1]; omega
  have hm2 : -9223372036854775808 ≤ (n2 : Int) * B ∧ (n2 : Int) * B ≤ 9223372036854775807 := by rw [e2]; omega
  have m3 : A * (n1 * B + n2 * B) ≤ 2048 * (2048 * 2048 + 2048 * 2048) := Nat.mul_le_mul bA (by omega)
  have e3 : (A : Int) * ((n1 : Int) * B + (n2 : Int) * B) = ((A * (n1 * B + n2 * B) : Nat) : Int) := by simp
  have hm3 : -9223372036854775808 ≤ (A : Int) * ((n1 : Int) * B + (n2 : Int) * B) ∧ (A : Int) * ((n1 : Int) * B + (n2 : Int) * B) ≤ 9223372036854775807 := by rw [e3]; omega
  have hbm : ((104 : Nat) : Int) * ((A : Int) * ((n1 : Int) * B + (n2 : Int) * B)) ≤ 281474976710656 := by rw [e3]; omega
  have h0m : 0 ≤ (A : Int) * ((n1 : Int) * B + (n2 : Int) * B) := by rw [e3]; omega
  refine acalls_of code_join_pair_merge (by simp [fn_join_pair_merge]) fun C hC => ?_
  unfold pairV
  refine walk2 ?_
  refine aw_slotZ 9 (.lit (.int .i64 ((n1 * B : Nat) : Int))) (by show AV.lit (.int .i64 ((n1 : Int) * B)) = _; rw [e1]) ?_
  refine aw_slotZ 10 (.lit (.int .i64 ((n2 * B : Nat) : Int))) (by show AV.lit (.int .i64 ((n2 : Int) * B)) = _; rw [e2]) ?_
  generalize hN1 : n1 * B = N1 at *
  generalize hN2 : n2 * B = N2 at *
  refine aw_loopB [2, 46, 9, 10] [0] (fun i : Nat => [(11, .own 1), (47, .lit (.int .i64 i))]) (fun i => [(1, some ⟨true, false, 76, 7, (catL N1 N2 al cs bl ds (i * (N1 + N2))).map cellR⟩)]) 2 (fun i => i ≤ A) (fun i => A - i) 0 (Nat.zero_le _) ?_ (hh := by rw [Nat.zero_mul]; rfl)
  rintro i hi
  dsimp only [List.cons_append, List.nil_append]
  by_cases hil : i < A
  · have hi1 : al = false → i * N1 + N1 ≤ cs.length := fun h => by
      have h1 := hc2 h
      have h2 : (i + 1) * N1 ≤ A * N1 := Nat.mul_le_mul_right _ hil
      rw [Nat.add_mul, Nat.one_mul] at h2
      omega
    have hi2 : bl = false → i * N2 + N2 ≤ ds.length := fun h => by
      have h1 := hd2 h
      have h2 : (i + 1) * N2 ≤ A * N2 := Nat.mul_le_mul_right _ hil
      rw [Nat.add_mul, Nat.one_mul] at h2
      omega
    have hst := catL_step N1 N2 al cs bl ds i hi1 hi2
    have hcl : ((catL N1 N2 al cs bl ds (i * (N1 + N2))).map cellR).length ≤ 100000000000 := by
      rw [List.length_map, catL_len]
      have : i * (N1 + N2) ≤ 2048 * (N1 + N2) := Nat.mul_le_mul_right _ (by omega)
      omega
    generalize hX : catL N1 N2 al cs bl ds (i * (N1 + N2)) = X at hst hcl ⊢
    have r1 := row_m s cs (X.map cellR) al i N1 (by omega) hcl (by omega) hi1 hc hcb
    have hl1 := rowL_len al cs i N1
    generalize hY : rowL al cs i N1 = Y at r1 hst hl1
    have hcl2 : (X.map cellR).length ≤ 90000000000 := by
      rw [← hX, List.length_map, catL_len]
      have : i * (N1 + N2) ≤ 2048 * (N1 + N2) := Nat.mul_le_mul_right _ (by omega)
      omega
    have r2 := row_m t ds (X.map cellR ++ Y.map cellR) bl i N2 (by omega) (by rw [List.length_append]; simp only [List.length_map] at hcl2 ⊢; omega) (by omega) hi2 hd hdb
    generalize hZ : rowL bl ds i N2 = Z at r2 hst
    refine walk2 ?_
    refine aw_reg (rrun2 ?_)
    refine r_callN [(1, 0)] r1 ?_
    refine rrun2 ?_
    refine rg_nil ⟨rfl, ?_⟩
    refine walk2 ?_
    refine aw_reg (rrun2 ?_)
    refine r_callN [(2, 0)] r2 ?_
    refine rrun2 ?_
    refine rg_nil ⟨rfl, ?_⟩
    refine walk2 ?_
    refine ⟨i + 1, by omega, by omega, wkR hC.m [(1, 3)] ?_⟩
    rw [← hst, List.map_append, List.map_append]
    rfl
  · have : i = A := by omega
    subst this
    refine walk2 ?_
    exact fin
end Go.Proofs.Ytfnilbkahkbljaa
