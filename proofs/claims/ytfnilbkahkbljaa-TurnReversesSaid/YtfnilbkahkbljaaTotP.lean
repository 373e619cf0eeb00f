/- All labels of an array joined; how deep it is; an array as a cell. -/
import Derived.Test.YtfnilbkahkbljaaArrG
import Derived.Test.YtfnilbkahkbljaaNumA
import Derived.Test.YtfnilbkahkbljaaLabA
namespace Go.Proofs.Ytfnilbkahkbljaa
set_option linter.unusedVariables false
open Go.RowKit

mutual
def totA : Arr → Nat
  | .mk s _ cs => totCs cs s
def totCs : List Cell → Nat → Nat
  | [], n => n
  | c :: cs, n => totCs cs (totC c n)
def totC : Cell → Nat → Nat
  | .mk l _ _ _ ins, n => totAs ins (n ||| l)
def totAs : List Arr → Nat → Nat
  | [], n => n
  | a :: xs, n => totAs xs (n ||| totA a)
end

theorem totA_eq (A : Arr) : totA A = totCs A.cells A.s := by cases A; simp only [totA, Arr.cells, Arr.s]
theorem totC_eq (c : Cell) (n : Nat) : totC c n = totAs c.ins (n ||| c.l) := by cases c; simp only [totC, Cell.ins, Cell.l]
theorem totCs_at {cs : List Cell} {k : Nat} {c : Cell} (h : cs[k]? = some c) (n : Nat) : totCs (cs.drop k) n = totCs (cs.drop (k + 1)) (totAs c.ins (n ||| c.l)) := by
  rw [dropA_cons h, totCs, totC_eq]
theorem totAs_at {xs : List Arr} {k : Nat} {a : Arr} (h : xs[k]? = some a) (n : Nat) : totAs (xs.drop k) n = totAs (xs.drop (k + 1)) (n ||| totA a) := by
  rw [dropA_cons h, totAs]

mutual
theorem totA_lt : ∀ (A : Arr), okA A → totA A < 18446744073709551616
  | .mk s sh cs, h => by simp only [totA]; exact totCs_lt cs s h.2.2.2 h.1
theorem totCs_lt : ∀ (cs : List Cell) (n : Nat), okCs cs → n < 18446744073709551616 → totCs cs n < 18446744073709551616
  | [], n, _, h => by simpa [totCs] using h
  | c :: cs, n, h, hn => by
    simp only [totCs, okCs] at h ⊢
    exact totCs_lt cs _ h.2 (totC_lt c n h.1 hn)
theorem totC_lt : ∀ (c : Cell) (n : Nat), okC c → n < 18446744073709551616 → totC c n < 18446744073709551616
  | .mk l _ _ _ ins, n, h, hn => by
    simp only [totC, okC] at h ⊢
    exact totAs_lt ins _ h.2.2.2.2 (or_lt _ _ hn h.1)
theorem totAs_lt : ∀ (xs : List Arr) (n : Nat), okAs xs → n < 18446744073709551616 → totAs xs n < 18446744073709551616
  | [], n, _, h => by simpa [totAs] using h
  | a :: xs, n, h, hn => by
    simp only [totAs, okAs] at h ⊢
    exact totAs_lt xs _ h.2 (or_lt _ _ hn (totA_lt a h.1))
end

set_option maxHeartbeats 1000000 in
theorem total_a : ∀ (A : Arr), okA A → ACalls Try.prog 51 [.agg (arrV A)] (labV (totA A))
  | A, hA => by
    have hB : maxB = 1000000000 := rfl
    have lcs := cells_len A
    obtain ⟨a1, a2, a3, a4⟩ := hA.parts
    refine acalls_of code_array_Total (by simp [fn_array_Total]) fun C hC => ?_
    have e := totA_eq A
    refine walk2 ?_
    refine aw_loopB [1, 11, 12] [0] (fun p : Nat × Nat => [(3, labV p.2), (13, .lit (.int .i64 p.1))]) (fun _ => []) 1
      (fun p => p.1 ≤ A.cells.length ∧ p.2 < 18446744073709551616 ∧ totA A = totCs (A.cells.drop p.1) p.2) (fun p => A.cells.length - p.1) (0, A.s) ⟨Nat.zero_le _, a1, e⟩ ?_
    rintro ⟨k, n⟩ ⟨hk, hn, hE⟩
    simp only at hk hn hE
    dsimp only [List.cons_append, List.nil_append]
    by_cases hlt : k < A.cells.length
    · obtain ⟨c, hc⟩ : ∃ c, A.cells[k]? = some c := ⟨_, List.getElem?_eq_getElem hlt⟩
      have hck := cell_at hc
      have hcm := List.mem_of_getElem? hc
      have hcok := okCs_mem.1 a4 c hcm
      obtain ⟨b1, b2, b3, b4, b5⟩ := hcok.parts
      have lin := ins_len c
      rw [totCs_at hc] at hE
      have c1 := join_a n c.l hn b1
      have hn2 := or_lt n c.l hn b1
      have ht : SizeOf.sizeOf c < SizeOf.sizeOf A := Nat.lt_trans (cell_size hcm) A.size
      refine walk2 ?_
      refine aw_loopB [1, 11, 12, 13, 22, 23] [0] (fun p : Nat × Nat => [(3, labV p.2), (24, .lit (.int .i64 p.1))]) (fun _ => []) 2
        (fun p => p.1 ≤ c.ins.length ∧ p.2 < 18446744073709551616 ∧ totA A = totCs (A.cells.drop (k + 1)) (totAs (c.ins.drop p.1) p.2)) (fun p => c.ins.length - p.1) (0, n ||| c.l) ⟨Nat.zero_le _, hn2, hE⟩ ?_
      rintro ⟨j, m⟩ ⟨hj, hm, hF⟩
      simp only at hj hm hF
      dsimp only [List.cons_append, List.nil_append]
      by_cases hlj : j < c.ins.length
      · obtain ⟨x, hx⟩ : ∃ x, c.ins[j]? = some x := ⟨_, List.getElem?_eq_getElem hlj⟩
        have hxk := arr_at hx
        have hxm := List.mem_of_getElem? hx
        have hxok := okAs_mem.1 b5 x hxm
        have ht2 : SizeOf.sizeOf x < SizeOf.sizeOf A := Nat.lt_trans (arr_size hxm) (Nat.lt_trans c.size ht)
        have c4 := total_a x hxok
        have hxl := totA_lt x hxok
        have c5 := join_a m (totA x) hm hxl
        rw [totAs_at hx] at hF
        clear c1
        refine walk2 ?_
        exact ⟨(j + 1, m ||| totA x), by simp only; omega, ⟨by simp only; omega, or_lt _ _ hm hxl, hF⟩, wkR hC.m []⟩
      · rw [show c.ins.drop j = [] from List.drop_eq_nil_of_le (by omega), totAs] at hF
        clear c1
        refine walk2 ?_
        exact ⟨(k + 1, m), by simp only; omega, ⟨by simp only; omega, hm, hF⟩, wkR hC.m []⟩
    · rw [List.drop_eq_nil_of_le (by omega), totCs] at hE
      rw [hE]
      refine walk2 ?_
      exact fin
  termination_by A => SizeOf.sizeOf A

set_option maxHeartbeats 1000000 in
theorem rtotal_a : ∀ (A : Arr), okA A → ACalls Try.prog 96 [.agg (arrV A)] (labV (totA A))
  | A, hA => by
    have hB : maxB = 1000000000 := rfl
    have lcs := cells_len A
    obtain ⟨a1, a2, a3, a4⟩ := hA.parts
    refine acalls_of code_scrimref08_Total (by simp [fn_scrimref08_Total]) fun C hC => ?_
    have e := totA_eq A
    refine walk2 ?_
    refine aw_loopB [1] [0] (fun p : Nat × Nat => [(3, labV p.2), (4, .lit (.int .i64 p.1))]) (fun _ => []) 1
      (fun p => p.1 ≤ A.cells.length ∧ p.2 < 18446744073709551616 ∧ totA A = totCs (A.cells.drop p.1) p.2) (fun p => A.cells.length - p.1) (0, A.s) ⟨Nat.zero_le _, a1, e⟩ ?_
    rintro ⟨k, n⟩ ⟨hk, hn, hE⟩
    simp only at hk hn hE
    dsimp only [List.cons_append, List.nil_append]
    by_cases hlt : k < A.cells.length
    · obtain ⟨c, hc⟩ : ∃ c, A.cells[k]? = some c := ⟨_, List.getElem?_eq_getElem hlt⟩
      have hck := cell_at hc
      have hcm := List.mem_of_getElem? hc
      have hcok := okCs_mem.1 a4 c hcm
      obtain ⟨b1, b2, b3, b4, b5⟩ := hcok.parts
      have lin := ins_len c
      rw [totCs_at hc] at hE
      have c1 := rjoin_a n c.l hn b1
      have hn2 := or_lt n c.l hn b1
      have ht : SizeOf.sizeOf c < SizeOf.sizeOf A := Nat.lt_trans (cell_size hcm) A.size
      refine walk2 ?_
      refine aw_loopB [1, 4] [0] (fun p : Nat × Nat => [(3, labV p.2), (5, .lit (.int .i64 p.1))]) (fun _ => []) 1
        (fun p => p.1 ≤ c.ins.length ∧ p.2 < 18446744073709551616 ∧ totA A = totCs (A.cells.drop (k + 1)) (totAs (c.ins.drop p.1) p.2)) (fun p => c.ins.length - p.1) (0, n ||| c.l) ⟨Nat.zero_le _, hn2, hE⟩ ?_
      rintro ⟨j, m⟩ ⟨hj, hm, hF⟩
      simp only at hj hm hF
      dsimp only [List.cons_append, List.nil_append]
      by_cases hlj : j < c.ins.length
      · obtain ⟨x, hx⟩ : ∃ x, c.ins[j]? = some x := ⟨_, List.getElem?_eq_getElem hlj⟩
        have hxk := arr_at hx
        have hxm := List.mem_of_getElem? hx
        have hxok := okAs_mem.1 b5 x hxm
        have ht2 : SizeOf.sizeOf x < SizeOf.sizeOf A := Nat.lt_trans (arr_size hxm) (Nat.lt_trans c.size ht)
        have c4 := rtotal_a x hxok
        have hxl := totA_lt x hxok
        have c5 := rjoin_a m (totA x) hm hxl
        rw [totAs_at hx] at hF
        clear c1
        refine walk2 ?_
        exact ⟨(j + 1, m ||| totA x), by simp only; omega, ⟨by simp only; omega, or_lt _ _ hm hxl, hF⟩, wkR hC.m []⟩
      · rw [show c.ins.drop j = [] from List.drop_eq_nil_of_le (by omega), totAs] at hF
        clear c1
        refine walk2 ?_
        exact ⟨(k + 1, m), by simp only; omega, ⟨by simp only; omega, hm, hF⟩, wkR hC.m []⟩
    · rw [List.drop_eq_nil_of_le (by omega), totCs] at hE
      rw [hE]
      refine walk2 ?_
      exact fin
  termination_by A => SizeOf.sizeOf A

def aloneP (A : Arr) : Bool := A.shape.length == 0 && A.cells.length == 1

theorem arrAlone_a (A : Arr) : ACalls Try.prog 129 [.agg (arrV A)] (.lit (.bool (aloneP A))) := by
  have lsh := intsA_len .i64 A.shape
  have lcs := cells_len A
  refine acalls_of code_array_alone (by simp [fn_array_alone]) fun C hC => ?_
  unfold aloneP
  by_cases h1 : A.shape.length = 0
  · rw [h1, beq_self_eq_true, Bool.true_and]
    by_cases h2 : A.cells.length = 1
    · rw [h2, beq_self_eq_true]
      refine walk2 ?_
      exact fin
    · rw [nat_beq_ne h2]
      refine walk2 ?_
      exact fin
  · rw [nat_beq_ne h1, Bool.false_and]
    refine walk2 ?_
    exact fin

theorem aloneP_true {A : Arr} (h : aloneP A = true) : A.shape.length = 0 ∧ A.cells.length = 1 := by
  unfold aloneP at h
  simpa using h

theorem arrSimple_a (A : Arr) : ACalls Try.prog 128 [.agg (arrV A)] (.lit (.bool (aloneP A && (A.cells.getD 0 (.mk 0 0 ⟨false, [], []⟩ 0 [])).kind != 2))) := by
  have lcs := cells_len A
  have c1 := arrAlone_a A
  refine acalls_of code_array_Simple (by simp [fn_array_Simple]) fun C hC => ?_
  cases h : aloneP A
  · rw [h] at c1
    rw [Bool.false_and]
    refine walk2 ?_
    exact fin
  · rw [h] at c1
    obtain ⟨h1, h2⟩ := aloneP_true h
    obtain ⟨c, hc⟩ : ∃ c, A.cells[0]? = some c := ⟨_, List.getElem?_eq_getElem (by omega)⟩
    have hck := cell_at hc
    rw [Bool.true_and, List.getD_eq_getElem?_getD, hc, Option.getD_some]
    by_cases h3 : c.kind = 2
    · rw [h3]
      refine walk2 ?_
      exact fin
    · rw [show (c.kind != 2) = true from by simpa using h3]
      refine walk2 ?_
      exact fin

mutual
def depA : Arr → Int
  | .mk s sh cs => if aloneP (.mk s sh cs) && (cs.getD 0 (.mk 0 0 ⟨false, [], []⟩ 0 [])).kind != 2 then 0 else depCs cs 0 + 1
def depCs : List Cell → Int → Int
  | [], n => n
  | c :: cs, n => depCs cs (depC c n)
def depC : Cell → Int → Int
  | .mk _ _ _ _ ins, n => depAs ins n
def depAs : List Arr → Int → Int
  | [], n => n
  | a :: xs, n => depAs xs (if depA a > n then depA a else n)
end

theorem depA_eq (A : Arr) : depA A = if aloneP A && (A.cells.getD 0 (.mk 0 0 ⟨false, [], []⟩ 0 [])).kind != 2 then 0 else depCs A.cells 0 + 1 := by cases A; unfold depA; rfl
theorem depC_eq (c : Cell) (n : Int) : depC c n = depAs c.ins n := by cases c; simp only [depC, Cell.ins]
theorem depCs_at {cs : List Cell} {k : Nat} {c : Cell} (h : cs[k]? = some c) (n : Int) : depCs (cs.drop k) n = depCs (cs.drop (k + 1)) (depAs c.ins n) := by
  rw [dropA_cons h, depCs, depC_eq]
theorem depAs_at {xs : List Arr} {k : Nat} {a : Arr} (h : xs[k]? = some a) (n : Int) : depAs (xs.drop k) n = depAs (xs.drop (k + 1)) (if depA a > n then depA a else n) := by
  rw [dropA_cons h, depAs]

theorem depAs_le {xs : List Arr} {m : Int} (h : ∀ x ∈ xs, 0 ≤ depA x ∧ depA x ≤ m) : ∀ n, 0 ≤ n → n ≤ m → 0 ≤ depAs xs n ∧ depAs xs n ≤ m := by
  induction xs with
  | nil => intro n h0 h1; simpa [depAs] using ⟨h0, h1⟩
  | cons a xs ih =>
    intro n h0 h1
    have ha := h a (by simp)
    simp only [depAs]
    refine ih (fun x hx => h x (by simp [hx])) _ ?_ ?_ <;> split <;> omega

theorem depCs_le {cs : List Cell} {m : Int} (h : ∀ c ∈ cs, ∀ x ∈ c.ins, 0 ≤ depA x ∧ depA x ≤ m) : ∀ n, 0 ≤ n → n ≤ m → 0 ≤ depCs cs n ∧ depCs cs n ≤ m := by
  induction cs with
  | nil => intro n h0 h1; simpa [depCs] using ⟨h0, h1⟩
  | cons c cs ih =>
    intro n h0 h1
    simp only [depCs, depC_eq]
    have := depAs_le (h c (by simp)) n h0 h1
    exact ih (fun x hx => h x (by simp [hx])) _ this.1 this.2

theorem depA_le : ∀ (d : Nat) (A : Arr), rightA d A = true → 0 ≤ depA A ∧ depA A ≤ d + 1
  | d, A, hr => by
    rw [depA_eq]
    split
    · omega
    · have := depCs_le (cs := A.cells) (m := d) (fun c hc x hx => by
        obtain ⟨e, he, hxe⟩ := right_in (rightCs_mem.1 (right_shape hr).2.2 c hc) x hx
        have := depA_le e x hxe
        omega) 0 (by omega) (by omega)
      omega
  termination_by d => d

set_option maxHeartbeats 1000000 in
theorem depth_a : ∀ (d : Nat) (A : Arr), d ≤ 100 → okA A → rightA d A = true → ACalls Try.prog 86 [.agg (arrV A)] (.lit (.int .i64 (depA A)))
  | d, A, hd, hA, hr => by
    have hB : maxB = 1000000000 := rfl
    have lcs := cells_len A
    obtain ⟨a1, a2, a3, a4⟩ := hA.parts
    have c0 := arrSimple_a A
    have e := depA_eq A
    have hdl := depA_le d A hr
    refine acalls_of code_array_Depth (by simp [fn_array_Depth]) fun C hC => ?_
    generalize (aloneP A && (A.cells.getD 0 (.mk 0 0 ⟨false, [], []⟩ 0 [])).kind != 2) = q at c0 e
    cases q with
    | true =>
      rw [e, if_pos rfl]
      refine walk2 ?_
      exact fin
    | false =>
      rw [if_neg (by simp)] at e
      refine walk2 ?_
      refine aw_loopB [1, 11, 12] [0] (fun p : Nat × Int => [(3, .lit (.int .i64 p.2)), (13, .lit (.int .i64 p.1))]) (fun _ => []) 1
        (fun p => p.1 ≤ A.cells.length ∧ (0 ≤ p.2 ∧ p.2 ≤ d) ∧ depA A = depCs (A.cells.drop p.1) p.2 + 1) (fun p => A.cells.length - p.1) (0, 0) ⟨Nat.zero_le _, ⟨by simp, by simp⟩, e⟩ ?_
      rintro ⟨k, n⟩ ⟨hk, ⟨hn0, hn1⟩, hE⟩
      simp only at hk hn0 hn1 hE
      dsimp only [List.cons_append, List.nil_append]
      by_cases hlt : k < A.cells.length
      · obtain ⟨c, hc⟩ : ∃ c, A.cells[k]? = some c := ⟨_, List.getElem?_eq_getElem hlt⟩
        have hck := cell_at hc
        have hcm := List.mem_of_getElem? hc
        have hcok := okCs_mem.1 a4 c hcm
        obtain ⟨b1, b2, b3, b4, b5⟩ := hcok.parts
        have lin := ins_len c
        rw [depCs_at hc] at hE
        have hri := right_in (rightCs_mem.1 (right_shape hr).2.2 c hcm)
        refine walk2 ?_
        refine aw_loopB [1, 11, 12, 13, 18, 19] [0] (fun p : Nat × Int => [(3, .lit (.int .i64 p.2)), (20, .lit (.int .i64 p.1))]) (fun _ => []) 2
          (fun p => p.1 ≤ c.ins.length ∧ (0 ≤ p.2 ∧ p.2 ≤ d) ∧ depA A = depCs (A.cells.drop (k + 1)) (depAs (c.ins.drop p.1) p.2) + 1) (fun p => c.ins.length - p.1) (0, n) ⟨Nat.zero_le _, ⟨hn0, hn1⟩, hE⟩ ?_
        rintro ⟨j, m⟩ ⟨hj, ⟨hm0, hm1⟩, hF⟩
        simp only at hj hm0 hm1 hF
        dsimp only [List.cons_append, List.nil_append]
        by_cases hlj : j < c.ins.length
        · obtain ⟨x, hx⟩ : ∃ x, c.ins[j]? = some x := ⟨_, List.getElem?_eq_getElem hlj⟩
          have hxk := arr_at hx
          have hxm := List.mem_of_getElem? hx
          have hxok := okAs_mem.1 b5 x hxm
          obtain ⟨f, hf, hxr⟩ := hri x hxm
          have c4 := depth_a f x (by omega) hxok hxr
          have hxl := depA_le f x hxr
          rw [depAs_at hx] at hF
          clear c0
          by_cases hgt : depA x > m
          · rw [if_pos hgt] at hF
            refine walk2 ?_
            exact ⟨(j + 1, depA x), by simp only; omega, ⟨by simp only; omega, ⟨by simp only; omega, by simp only; omega⟩, hF⟩, wkR hC.m []⟩
          · rw [if_neg hgt] at hF
            refine walk2 ?_
            exact ⟨(j + 1, m), by simp only; omega, ⟨by simp only; omega, ⟨by simp only; omega, by simp only; omega⟩, hF⟩, wkR hC.m []⟩
        · rw [show c.ins.drop j = [] from List.drop_eq_nil_of_le (by omega), depAs] at hF
          clear c0
          refine walk2 ?_
          exact ⟨(k + 1, m), by simp only; omega, ⟨by simp only; omega, ⟨hm0, hm1⟩, hF⟩, wkR hC.m []⟩
      · rw [List.drop_eq_nil_of_le (by omega), depCs] at hE
        rw [hE]
        clear c0
        refine walk2 ?_
        exact fin
  termination_by d => d

/-- an array as a cell -/
def packC (A : Arr) : Cell := if aloneP A then (match A.cells with | .mk l k n c ins :: _ => .mk (l ||| A.s) k n c ins | [] => .mk 0 0 ⟨false, [], []⟩ 0 []) else .mk A.s 2 ⟨false, [], []⟩ 0 [A]

theorem pack_a (A : Arr) (hA : okA A) : ACalls Try.prog 87 [.agg (arrV A)] (.agg (cellV (packC A))) := by
  have lcs := cells_len A
  have c1 := arrAlone_a A
  obtain ⟨a1, a2, a3, a4⟩ := hA.parts
  refine acalls_of code_array_Pack (by simp [fn_array_Pack]) fun C hC => ?_
  unfold packC
  cases h : aloneP A
  · rw [h] at c1
    rw [if_neg (by simp)]
    refine walk2 ?_
    rw [show cellV (.mk A.s 2 ⟨false, [], []⟩ 0 [A]) = [labV A.s, .lit (.int .i64 2), .lit (.bool false), .sl 1 [], .sl 1 [], .lit (.int .i64 0), .sl 3 [arrV A]] from by simp [cellV, intsA, arrR_eq, Cell.l, Cell.kind, Cell.n, Cell.c, Cell.ins]]
    exact fin
  · rw [h] at c1
    rw [if_pos rfl]
    obtain ⟨h1, h2⟩ := aloneP_true h
    obtain ⟨c, hc⟩ : ∃ c, A.cells = [c] := by
      match hA : A.cells, h2 with
      | [c], _ => exact ⟨c, rfl⟩
    have hc0 : A.cells[0]? = some c := by rw [hc]; rfl
    have hck := cell_at hc0
    have hcok := okCs_mem.1 a4 c (by rw [hc]; simp)
    obtain ⟨b1, b2, b3, b4, b5⟩ := hcok.parts
    have c2 := own_a c b2 b3 b4
    have c3 := join_a c.l A.s b1 a1
    rw [hc]
    obtain ⟨l, k, n, cc, ins⟩ := c
    simp only [Cell.l] at c3
    unfold cellV at c2 hck ⊢
    simp only [Cell.l, Cell.kind, Cell.n, Cell.c, Cell.ins] at c2 hck ⊢
    refine walk2 ?_
    exact fin
end Go.Proofs.Ytfnilbkahkbljaa
