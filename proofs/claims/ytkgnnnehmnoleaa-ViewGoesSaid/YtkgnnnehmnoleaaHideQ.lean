/- Rows that are written one by one; arrays small enough to be copied. No program in sight. -/
import Derived.Test.YtkgnnnehmnoleaaCloneP
namespace Go.Proofs.Ytkgnnnehmnoleaa
set_option linter.unusedVariables false
open Go.RowKit

def rowK {α : Type} (f : α → List AV) (z : List AV) (xs : List α) (k : Nat) : List (List AV) := (xs.take k).map f ++ List.replicate (xs.length - k) z

theorem rowK_zero {α : Type} (f : α → List AV) (z : List AV) (xs : List α) : List.replicate xs.length z = rowK f z xs 0 := by simp [rowK]
theorem rowK_len {α : Type} (f : α → List AV) (z : List AV) (xs : List α) (k : Nat) (h : k ≤ xs.length) : (rowK f z xs k).length = xs.length := by
  simp [rowK]; omega
theorem rowK_get {α : Type} (f : α → List AV) (z : List AV) (xs : List α) (k : Nat) (h : k < xs.length) : (rowK f z xs k)[k]? = some z := by
  rw [rowK, List.getElem?_append_right (by simp; omega)]
  simp [List.getElem?_replicate]
  omega
theorem rowK_set {α : Type} (f : α → List AV) (z : List AV) (xs : List α) (k : Nat) (x : α) (h : xs[k]? = some x) : (rowK f z xs k).set k (f x) = rowK f z xs (k + 1) := by
  have hk := (List.getElem?_eq_some_iff.1 h).1
  rw [rowK, rowK, List.set_append_right _ _ (by simp; omega), List.take_add_one, h]
  have e : xs.length - k = (xs.length - (k + 1)) + 1 := by omega
  rw [e, List.replicate_succ]
  simp
  rw [show k - min k xs.length = 0 from by omega]
  rfl
theorem rowK_end {α : Type} (f : α → List AV) (z : List AV) (xs : List α) (k : Nat) (h : ¬ k < xs.length) : rowK f z xs k = xs.map f := by
  rw [rowK, List.take_of_length_le (by omega), show xs.length - k = 0 from by omega]; simp

def mapK {α : Type} (f : α → List AV) (xs : List α) (k : Nat) : List (List AV) := (xs.take k).map f
theorem mapK_step {α : Type} (f : α → List AV) (xs : List α) (k : Nat) (x : α) (h : xs[k]? = some x) : mapK f xs k ++ [f x] = mapK f xs (k + 1) := by
  rw [mapK, mapK, List.take_add_one, h]; simp
theorem mapK_one {α : Type} (f : α → List AV) (xs : List α) (x : α) (h : xs[0]? = some x) : [f x] = mapK f xs 1 := by
  have := mapK_step f xs 0 x h
  simpa [mapK] using this
theorem mapK_end {α : Type} (f : α → List AV) (xs : List α) (k : Nat) (h : ¬ k < xs.length) : mapK f xs k = xs.map f := by
  rw [mapK, List.take_of_length_le (by omega)]
theorem mapK_len {α : Type} (f : α → List AV) (xs : List α) (k : Nat) : (mapK f xs k).length ≤ k := by
  simp [mapK]; omega

/-- small enough to be copied, its labels labels -/
def maxB : Nat := 1000000000
mutual
def okA : Arr → Prop
  | .mk s sh cs => s < 18446744073709551616 ∧ sh.length ≤ maxB ∧ cs.length ≤ maxB ∧ okCs cs
def okC : Cell → Prop
  | .mk l k n c ins => l < 18446744073709551616 ∧ n.top.length ≤ maxB ∧ n.bot.length ≤ maxB ∧ ins.length ≤ maxB ∧ okAs ins
def okCs : List Cell → Prop
  | [] => True
  | c :: cs => okC c ∧ okCs cs
def okAs : List Arr → Prop
  | [] => True
  | a :: l => okA a ∧ okAs l
end
theorem okCs_mem : ∀ {cs : List Cell}, okCs cs ↔ ∀ c ∈ cs, okC c
  | [] => by simp [okCs]
  | c :: cs => by simp only [okCs, List.mem_cons, forall_eq_or_imp, okCs_mem]
theorem okAs_mem : ∀ {cs : List Arr}, okAs cs ↔ ∀ c ∈ cs, okA c
  | [] => by simp [okAs]
  | c :: cs => by simp only [okAs, List.mem_cons, forall_eq_or_imp, okAs_mem]
theorem okA.parts {A : Arr} (h : okA A) : A.s < 18446744073709551616 ∧ A.shape.length ≤ maxB ∧ A.cells.length ≤ maxB ∧ okCs A.cells := by cases A; exact h
theorem okC.parts {c : Cell} (h : okC c) : c.l < 18446744073709551616 ∧ c.n.top.length ≤ maxB ∧ c.n.bot.length ≤ maxB ∧ c.ins.length ≤ maxB ∧ okAs c.ins := by cases c; exact h

mutual
theorem leftA_ok : ∀ (A : Arr) (d : Nat) (n : Int), arrOK A → 0 ≤ leftA A d n → n ≤ 4000 → leftA A d n ≤ n - 1 ∧ okA A
  | .mk s sh cs, d, n, h, h0, h1 => by
    simp only [arrOK] at h
    simp only [leftA] at h0 ⊢
    split at h0
    · omega
    · rename_i hd
      rw [if_neg hd]
      have hb : (maxB : Int) = 1000000000 := rfl
      obtain ⟨k1, k2⟩ := leftCs_ok cs d _ h.2.2.2.2 h0 (by omega)
      simp only [okA]
      exact ⟨by omega, h.1, by omega, by omega, k2⟩
theorem leftCs_ok : ∀ (cs : List Cell) (d : Nat) (n : Int), cellsOK cs → 0 ≤ leftCs cs d n → n ≤ 4000 → leftCs cs d n ≤ n - cs.length ∧ okCs cs
  | [], d, n, h, h0, h1 => by simp [leftCs, okCs]
  | c :: cs, d, n, h, h0, h1 => by
    simp only [cellsOK] at h
    simp only [leftCs] at h0 ⊢
    by_cases hn : 0 ≤ n
    · rw [if_pos hn] at h0 ⊢
      by_cases hm : 0 ≤ leftC c d n
      · obtain ⟨a1, a2⟩ := leftC_ok c d n h.1 hm h1
        obtain ⟨k1, k2⟩ := leftCs_ok cs d _ h.2 h0 (by omega)
        simp only [okCs, List.length_cons]
        exact ⟨by omega, a2, k2⟩
      · rw [leftCs_neg _ _ _ (by omega)] at h0; omega
    · rw [if_neg hn] at h0; omega
theorem leftC_ok : ∀ (c : Cell) (d : Nat) (n : Int), cellOK c → 0 ≤ leftC c d n → n ≤ 4000 → leftC c d n ≤ n - 1 ∧ okC c
  | .mk l k nm ch ins, d, n, h, h0, h1 => by
    simp only [cellOK] at h
    simp only [leftC] at h0 ⊢
    have hb : (maxB : Int) = 1000000000 := rfl
    obtain ⟨k1, k2⟩ := leftAs_ok ins _ _ h.2.2.2.2.2 h0 (by omega)
    simp only [okC]
    exact ⟨by omega, h.1, by omega, by omega, by omega, k2⟩
theorem leftAs_ok : ∀ (cs : List Arr) (d : Nat) (n : Int), arrsOK cs → 0 ≤ leftAs cs d n → n ≤ 4000 → leftAs cs d n ≤ n - cs.length ∧ okAs cs
  | [], d, n, h, h0, h1 => by simp [leftAs, okAs]
  | c :: cs, d, n, h, h0, h1 => by
    simp only [arrsOK] at h
    simp only [leftAs] at h0 ⊢
    by_cases hn : 0 ≤ n
    · rw [if_pos hn] at h0 ⊢
      by_cases hm : 0 ≤ leftA c d n
      · obtain ⟨a1, a2⟩ := leftA_ok c d n h.1 hm h1
        obtain ⟨k1, k2⟩ := leftAs_ok cs d _ h.2 h0 (by omega)
        simp only [okAs, List.length_cons]
        exact ⟨by omega, a2, k2⟩
      · rw [leftAs_neg _ _ _ (by omega)] at h0; omega
    · rw [if_neg hn] at h0; omega
end

theorem few_ok {A : Arr} (h : arrOK A) (hf : fewP A = true) : okA A := (leftA_ok A 12 4000 h (of_decide_eq_true hf) (by omega)).2

mutual
theorem okA.wf : ∀ {A : Arr}, okA A → wfA A
  | .mk s sh cs, h => by
    simp only [okA] at h
    exact ⟨h.1, okCs.wf h.2.2.2⟩
theorem okCs.wf : ∀ {cs : List Cell}, okCs cs → wfCs cs
  | [], h => by simp [wfCs]
  | c :: cs, h => by
    simp only [okCs] at h
    exact ⟨okC.wf h.1, okCs.wf h.2⟩
theorem okC.wf : ∀ {c : Cell}, okC c → wfC c
  | .mk l k n c ins, h => by
    simp only [okC] at h
    exact ⟨h.1, okAs.wf h.2.2.2.2⟩
theorem okAs.wf : ∀ {xs : List Arr}, okAs xs → wfAs xs
  | [], h => by simp [wfAs]
  | a :: xs, h => by
    simp only [okAs] at h
    exact ⟨okA.wf h.1, okAs.wf h.2⟩
end

theorem secretN_lt : secretN < 18446744073709551616 := by decide
mutual
theorem okA.hide (o : Nat) : ∀ {A : Arr}, okA A → okA (hideA o A)
  | .mk s sh cs, h => by
    simp only [okA] at h
    simp only [hideA]
    split
    · simp only [okA, hideCs_map, List.length_map]
      exact ⟨h.1, h.2.1, h.2.2.1, by rw [← hideCs_map]; exact okCs.hide o h.2.2.2⟩
    · simp [okA, okCs, secretN_lt]
theorem okCs.hide (o : Nat) : ∀ {cs : List Cell}, okCs cs → okCs (hideCs o cs)
  | [], h => by simp [okCs, hideCs]
  | c :: cs, h => by
    simp only [okCs] at h
    simp only [hideCs, okCs]
    exact ⟨okC.hide o h.1, okCs.hide o h.2⟩
theorem okC.hide (o : Nat) : ∀ {c : Cell}, okC c → okC (hideC o c)
  | .mk l k n c ins, h => by
    simp only [okC] at h
    simp only [hideC]
    split
    · simp only [okC, hideAs_map, List.length_map]
      exact ⟨h.1, h.2.1, h.2.2.1, h.2.2.2.1, by rw [← hideAs_map]; exact okAs.hide o h.2.2.2.2⟩
    · simp [okC, okAs, secretN_lt]
theorem okAs.hide (o : Nat) : ∀ {xs : List Arr}, okAs xs → okAs (hideAs o xs)
  | [], h => by simp [okAs, hideAs]
  | a :: xs, h => by
    simp only [okAs] at h
    simp only [hideAs, okAs]
    exact ⟨okA.hide o h.1, okAs.hide o h.2⟩
end

theorem hideA_no {o : Nat} {A : Arr} (h : flowsN A.s o = false) : hideA o A = .mk secretN [] [] := by
  cases A; simp only [Arr.s] at h; simp [hideA, h]
theorem hideA_yes {o : Nat} {A : Arr} (h : flowsN A.s o = true) : hideA o A = .mk A.s A.shape (A.cells.map (hideC o)) := by
  cases A; simp only [Arr.s] at h; simp [hideA, h, hideCs_map, Arr.s, Arr.shape, Arr.cells]
theorem hideC_no {o : Nat} {c : Cell} (h : flowsN c.l o = false) : hideC o c = .mk secretN 0 ⟨false, [], []⟩ 0 [] := by
  cases c; simp only [Cell.l] at h; simp [hideC, h]
theorem hideC_yes {o : Nat} {c : Cell} (h : flowsN c.l o = true) : hideC o c = .mk c.l c.kind c.n c.c (c.ins.map (hideA o)) := by
  cases c; simp only [Cell.l] at h; simp [hideC, h, hideAs_map, Cell.l, Cell.kind, Cell.n, Cell.c, Cell.ins]

theorem arrR_hide (o : Nat) (xs : List Arr) : xs.map (fun a => arrV (hideA o a)) = (xs.map (hideA o)).map arrR := by
  rw [List.map_map]; exact List.map_congr_left fun a _ => (arrR_eq _).symm
theorem cellR_hide (o : Nat) (xs : List Cell) : xs.map (fun a => cellV (hideC o a)) = (xs.map (hideC o)).map cellR := by
  rw [List.map_map]; exact List.map_congr_left fun a _ => (cellR_eq _).symm
end Go.Proofs.Ytkgnnnehmnoleaa
