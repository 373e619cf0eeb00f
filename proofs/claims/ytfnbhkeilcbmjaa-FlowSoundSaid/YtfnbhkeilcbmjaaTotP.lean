/- All labels of an array joined; how deep it is; an array as a cell. -/
import Derived.Test.YtfnbhkeilcbmjaaArrG
import Derived.Test.YtfnbhkeilcbmjaaNumA
import Derived.Test.YtfnbhkeilcbmjaaLabA
namespace Go.Proofs.Ytfnbhkeilcbmjaa
set_option linter.unusedVariables false
open Go.RowKit

mutual
def totA : Arr → Nat
  | .mk s _ cs => totCs cs s
def totCs : List Cell → Nat → Nat
  | [], n => n
  | c :: cs, n => totCs cs (totC c n)
def totC : Cell → Nat → Nat
  | .mk l _ _ _ ins, n => totAs ins (n ||| l)
def totAs : List Arr → Nat → Nat
  | [], n => n
  | a :: xs, n => totAs xs (n ||| totA a)
end

theorem totA_eq (A : Arr) : totA A = totCs A.cells A.s := by cases A; simp only [totA, Arr.cells, Arr.s]
theorem totC_eq (c : Cell) (n : Nat) : totC c n = totAs c.ins (n ||| c.l) := by cases c; simp only [totC, Cell.ins, Cell.l]
theorem totCs_at {cs : List Cell} {k : Nat} {c : Cell} (h : cs[k]? = some c) (n : Nat) : totCs (cs.drop k) n = totCs (cs.drop (k + 1)) (totAs c.ins (n ||| c.l)) := by
  rw [dropA_cons h, totCs, totC_eq]
theorem totAs_at {xs : List Arr} {k : Nat} {a : Arr} (h : xs[k]? = some a) (n : Nat) : totAs (xs.drop k) n = totAs (xs.drop (k + 1)) (n ||| totA a) := by
  rw [dropA_cons h, totAs]

mutual
theorem totA_lt : ∀ (A : Arr), okA A → totA A < 18446744073709551616
  | .mk s sh cs, h => by simp only [totA]; exact totCs_lt cs s h.2.2.2 h.1
theorem totCs_lt : ∀ (cs : List Cell) (n : Nat), okCs cs → n < 18446744073709551616 → totCs cs n < 18446744073709551616
  | [], n, _, h => by simpa [totCs] using h
  | c :: cs, n, h, hn => by
    simp only [totCs, okCs] at h ⊢
    exact totCs_lt cs _ h.2 (totC_lt c n h.1 hn)
theorem totC_lt : ∀ (c : Cell) (n : Nat), okC c → n < 18446744073709551616 → totC c n < 18446744073709551616
  | .mk l _ _ _ ins, n, h, hn => by
    simp only [totC, okC] at h ⊢
    exact totAs_lt ins _ h.2.2.2.2 (or_lt _ _ hn h.1)
theorem totAs_lt : ∀ (xs : List Arr) (n : Nat), okAs xs → n < 18446744073709551616 → totAs xs n < 18446744073709551616
  | [], n, _, h => by simpa [totAs] using h
  | a :: xs, n, h, hn => by
    simp only [totAs, okAs] at h ⊢
    exact totAs_lt xs _ h.2 (or_lt _ _ hn (totA_lt a h.1))
end

set_option maxHeartbeats 1000000 in
theorem total_a : ∀ (A : Arr), okA A → ACalls Try.prog 45 [.agg (arrV A)] (labV (totA A))
  | A, hA => by
    have hB : maxB = 1000000000 := rfl
    have lcs := cells_len A
    obtain ⟨a1, a2, a3, a4⟩ := hA.parts
    refine acalls_of code_array_Total (by simp [fn_array_Total]) fun C hC => ?_
    have e := totA_eq A
    refine walk2 ?_
    refine aw_loopB [1, 11, 12] [0] (fun p : Nat × Nat => [(3, labV p.2), (13, .lit (.int .i64 p.1))]) (fun _ => []) 1
      (fun p => p.1 ≤ A.cells.length ∧ p.2 < 18446744073709551616 ∧ totA A = totCs (A.cells.drop p.1) p.2) (fun p => A.cells.length - p.1) (0, A.s) ⟨Nat.zero_le _, a1, e⟩ ?_
    rintro ⟨k, n⟩ ⟨hk, hn, hE⟩
    simp only at hk hn hE
    dsimp only [List.cons_append, List.nil_append]
    by_cases hlt : k < A.cells.length
    · obtain ⟨c, hc⟩ : ∃ c, A.cells[k]? = some c := ⟨_, List.getElem?_eq_getElem hlt⟩
      have hck := cell_at hc
      have hcm := List.mem_of_getElem? hc
      have hcok := okCs_mem.1 a4 c hcm
      obtain ⟨b1, b2, b3, b4, b5⟩ := hcok.parts
      have lin := ins_len c
      rw [totCs_at hc] at hE
      have c1 := join_a n c.l hn b1
      have hn2 := or_lt n c.l hn b1
      have ht : SizeOf.sizeOf c < SizeOf.sizeOf A := Nat.lt_trans (cell_size hcm) A.size
      refine walk2 ?_
      refine aw_loopB [1, 11, 12, 13, 22, 23] [0] (fun p : Nat × Nat => [(3, labV p.2), (24, .lit (.int .i64 p.1))]) (fun _ => []) 2
        (fun p => p.1 ≤ c.ins.length ∧ p.2 < 18446744073709551616 ∧ totA A = totCs (A.cells.drop (k + 1)) (totAs (c.ins.drop p.1) p.2)) (fun p => c.ins.length - p.1) (0, n ||| c.l) ⟨Nat.zero_le _, hn2, hE⟩ ?_
      rintro ⟨j, m⟩ ⟨hj, hm, hF⟩
      simp only at hj hm hF
      dsimp only [List.cons_append, List.nil_append]
      by_cases hlj : j < c.ins.length
      · obtain ⟨x, hx⟩ : ∃ x, c.ins[j]? = some x := ⟨_, List.getElem?_eq_getElem hlj⟩
        have hxk := arr_at hx
        have hxm := List.mem_of_getElem? hx
        have hxok := okAs_mem.1 b5 x hxm
        have ht2 : SizeOf.sizeOf x < SizeOf.sizeOf A := Nat.lt_trans (arr_size hxm) (Nat.lt_trans c.size ht)
        have c4 := total_a x hxok
        have hxl := totA_lt x hxok
        have c5 := join_a m (totA x) hm hxl
        rw [totAs_at hx] at hF
        clear c1
        refine walk2 ?_
        exact ⟨(j + 1, m ||| totA x), by simp only; omega, ⟨by simp only; omega, or_lt _ _ hm hxl, hF⟩, wkR hC.m []⟩
      · rw [show c.ins.drop j = [] from List.drop_eq_nil_of_le (by omega), totAs] at hF
        clear c1
        refine walk2 ?_
        exact ⟨(k + 1, m), by simp only; omega, ⟨by simp only; omega, hm, hF⟩, wkR hC.m []⟩
    · rw [List.drop_eq_nil_of_le (by omega), totCs] at hE
      rw [hE]
      refine walk2 ?_
      exact fin
  termination_by A => SizeOf.sizeOf A

set_option maxHeartbeats 1000000 in
theorem rtotal_a : ∀ (A : Arr), okA A → ACalls Try.prog 16 [.agg (arrV A)] (labV (totA A))
  | A, hA => by
    have hB : maxB = 1000000000 := rfl
    have lcs := cells_len A
    obtain ⟨a1, a2, a3, a4⟩ := hA.parts
    refine acalls_of code_scrimref08_Total (by simp [fn_scrimref08_Total]) fun C hC => ?_
    have e := totA_eq A
    refine walk2 ?_
    refine aw_loopB [1] [0] (fun p : Nat × Nat => [(3, labV p.2), (4, .lit (.int .i64 p.1))]) (fun _ => []) 1
      (fun p => p.1 ≤ A.cells.length ∧ p.2 < 18446744073709551616 ∧ totA A = totCs (A.cells.drop p.1) p.2) (fun p => A.cells.length - p.1) (0, A.s) ⟨Nat.zero_le _, a1, e⟩ ?_
    rintro ⟨k, n⟩ ⟨hk, hn, hE⟩
    simp only at hk hn hE
    dsimp only [List.cons_append, List.nil_append]
    by_cases hlt : k < A.cells.length
    · obtain ⟨c, hc⟩ : ∃ c, A.cells[k]? = some c := ⟨_, List.getElem?_eq_getElem hlt⟩
      have hck := cell_at hc
      have hcm := List.mem_of_getElem? hc
      have hcok := okCs_mem.1 a4 c hcm
      obtain ⟨b1, b2, b3, b4, b5⟩ := hcok.parts
      have lin := ins_len c
      rw [totCs_at hc] at hE
      have c1 := rjoin_a n c.l hn b1
      have hn2 := or_lt n c.l hn b1
      have ht : SizeOf.sizeOf c < SizeOf.sizeOf A := Nat.lt_trans (cell_size hcm) A.size
      refine walk2 ?_
      refine aw_loopB [1, 4] [0] (fun p : Nat × Nat => [(3, labV p.2), (5, .lit (.int .i64 p.1))]) (fun _ => []) 1
        (fun p => p.1 ≤ c.ins.length ∧ p.2 < 18446744073709551616 ∧ totA A = totCs (A.cells.drop (k + 1)) (totAs (c.ins.drop p.1) p.2)) (fun p => c.ins.length - p.1) (0, n ||| c.l) ⟨Nat.zero_le _, hn2, hE⟩ ?_
      rintro ⟨j, m⟩ ⟨hj, hm, hF⟩
      simp only at hj hm hF
      dsimp only [List.cons_append, List.nil_append]
      by_cases hlj : j < c.ins.length
      · obtain ⟨x, hx⟩ : ∃ x, c.ins[j]? = some x := ⟨_, List.getElem?_eq_getElem hlj⟩
        have hxk := arr_at hx
        have hxm := List.mem_of_getElem? hx
        have hxok := okAs_mem.1 b5 x hxm
        have ht2 : SizeOf.sizeOf x < SizeOf.sizeOf A := Nat.lt_trans (arr_size hxm) (Nat.lt_trans c.size ht)
        have c4 := rtotal_a x hxok
        have hxl := totA_lt x hxok
        have c5 := rjoin_a m (totA x) hm hxl
        rw [totAs_at hx] at hF
        clear c1
        refine walk2 ?_
        exact ⟨(j + 1, m ||| totA x), by simp only; omega, ⟨by simp only; omega, or_lt _ _ hm hxl, hF⟩, wkR hC.m []⟩
      · rw [show c.ins.drop j = [] from List.drop_eq_nil_of_le (by omega), totAs] at hF
        clear c1
        refine walk2 ?_
        exact ⟨(k + 1, m), by simp only; omega, ⟨by simp only; omega, hm, hF⟩, wkR hC.m []⟩
    · rw [List.drop_eq_nil_of_le (by omega), totCs] at hE
      rw [hE]
      refine walk2 ?_
      exact fin
  termination_by A => SizeOf.sizeOf A

def aloneP (A : Arr) : Bool := A.shape.length == 0 && A.cells.length == 1

theorem aloneP_true {A : Arr} (h : aloneP A = true) : A.shape.length = 0 ∧ A.cells.length = 1 := by
  unfold aloneP at h
  simpa using h

mutual
def depA : Arr → Int
  | .mk s sh cs => if aloneP (.mk s sh cs) && (cs.getD 0 (.mk 0 0 ⟨false, [], []⟩ 0 [])).kind != 2 then 0 else depCs cs 0 + 1
def depCs : List Cell → Int → Int
  | [], n => n
  | c :: cs, n => depCs cs (depC c n)
def depC : Cell → Int → Int
  | .mk _ _ _ _ ins, n => depAs ins n
def depAs : List Arr → Int → Int
  | [], n => n
  | a :: xs, n => depAs xs (if depA a > n then depA a else n)
end

theorem depA_eq (A : Arr) : depA A = if aloneP A && (A.cells.getD 0 (.mk 0 0 ⟨false, [], []⟩ 0 [])).kind != 2 then 0 else depCs A.cells 0 + 1 := by cases A; unfold depA; rfl
theorem depC_eq (c : Cell) (n : Int) : depC c n = depAs c.ins n := by cases c; simp only [depC, Cell.ins]
theorem depCs_at {cs : List Cell} {k : Nat} {c : Cell} (h : cs[k]? = some c) (n : Int) : depCs (cs.drop k) n = depCs (cs.drop (k + 1)) (depAs c.ins n) := by
  rw [dropA_cons h, depCs, depC_eq]
theorem depAs_at {xs : List Arr} {k : Nat} {a : Arr} (h : xs[k]? = some a) (n : Int) : depAs (xs.drop k) n = depAs (xs.drop (k + 1)) (if depA a > n then depA a else n) := by
  rw [dropA_cons h, depAs]

theorem depAs_le {xs : List Arr} {m : Int} (h : ∀ x ∈ xs, 0 ≤ depA x ∧ depA x ≤ m) : ∀ n, 0 ≤ n → n ≤ m → 0 ≤ depAs xs n ∧ depAs xs n ≤ m := by
  induction xs with
  | nil => intro n h0 h1; simpa [depAs] using ⟨h0, h1⟩
  | cons a xs ih =>
    intro n h0 h1
    have ha := h a (by simp)
    simp only [depAs]
    refine ih (fun x hx => h x (by simp [hx])) _ ?_ ?_ <;> split <;> omega

theorem depCs_le {cs : List Cell} {m : Int} (h : ∀ c ∈ cs, ∀ x ∈ c.ins, 0 ≤ depA x ∧ depA x ≤ m) : ∀ n, 0 ≤ n → n ≤ m → 0 ≤ depCs cs n ∧ depCs cs n ≤ m := by
  induction cs with
  | nil => intro n h0 h1; simpa [depCs] using ⟨h0, h1⟩
  | cons c cs ih =>
    intro n h0 h1
    simp only [depCs, depC_eq]
    have := depAs_le (h c (by simp)) n h0 h1
    exact ih (fun x hx => h x (by simp [hx])) _ this.1 this.2

theorem depA_le : ∀ (d : Nat) (A : Arr), rightA d A = true → 0 ≤ depA A ∧ depA A ≤ d + 1
  | d, A, hr => by
    rw [depA_eq]
    split
    · omega
    · have := depCs_le (cs := A.cells) (m := d) (fun c hc x hx => by
        obtain ⟨e, he, hxe⟩ := right_in (rightCs_mem.1 (right_shape hr).2.2 c hc) x hx
        have := depA_le e x hxe
        omega) 0 (by omega) (by omega)
      omega
  termination_by d => d

/-- an array as a cell -/
def packC (A : Arr) : Cell := if aloneP A then (match A.cells with | .mk l k n c ins :: _ => .mk (l ||| A.s) k n c ins | [] => .mk 0 0 ⟨false, [], []⟩ 0 []) else .mk A.s 2 ⟨false, [], []⟩ 0 [A]

end Go.Proofs.Ytfnbhkeilcbmjaa
