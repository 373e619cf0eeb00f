/- Few: how much is left of a budget; no list in an array that passes is long. -/
import Derived.Test.YtkgnnnehmnoleaaEqP
namespace Go.Proofs.Ytkgnnnehmnoleaa
set_option linter.unusedVariables false
open Go.RowKit

mutual
def leftA : Arr → Nat → Int → Int
  | .mk s sh cs, d, n => if d = 0 then -1 else leftCs cs d (n - 1 - sh.length)
def leftCs : List Cell → Nat → Int → Int
  | [], _, n => n
  | c :: cs, d, n => if 0 ≤ n then leftCs cs d (leftC c d n) else n
def leftC : Cell → Nat → Int → Int
  | .mk _ _ nm _ ins, d, n => leftAs ins (d - 1) (n - 1 - nm.top.length - nm.bot.length)
def leftAs : List Arr → Nat → Int → Int
  | [], _, n => n
  | a :: xs, d, n => if 0 ≤ n then leftAs xs d (leftA a d n) else n
end

theorem leftCs_neg (cs : List Cell) (d : Nat) (n : Int) (h : n < 0) : leftCs cs d n = n := by
  cases cs with
  | nil => simp [leftCs]
  | cons c cs => simp only [leftCs]; rw [if_neg (by omega)]

theorem leftAs_neg (xs : List Arr) (d : Nat) (n : Int) (h : n < 0) : leftAs xs d n = n := by
  cases xs with
  | nil => simp [leftAs]
  | cons c cs => simp only [leftAs]; rw [if_neg (by omega)]

mutual
theorem leftA_range : ∀ (A : Arr) (d : Nat) (n : Int), arrOK A → 0 ≤ n → n ≤ 4000 → -1000000000000000 ≤ leftA A d n ∧ leftA A d n ≤ 4000
  | .mk s sh cs, d, n, h, h0, h1 => by
    simp only [arrOK] at h
    have hr : reachBytes = 140737488351232 := rfl
    simp only [leftA]
    split
    · omega
    · exact leftCs_range cs d _ h.2.2.2.2 (by omega) (by omega)
theorem leftCs_range : ∀ (cs : List Cell) (d : Nat) (n : Int), cellsOK cs → -1000000000000000 ≤ n → n ≤ 4000 → -1000000000000000 ≤ leftCs cs d n ∧ leftCs cs d n ≤ 4000
  | [], d, n, h, h0, h1 => by simp only [leftCs]; omega
  | c :: cs, d, n, h, h0, h1 => by
    simp only [cellsOK] at h
    simp only [leftCs]
    split
    · rename_i hn
      obtain ⟨k1, k2⟩ := leftC_range c d n h.1 hn h1
      exact leftCs_range cs d _ h.2 k1 k2
    · omega
theorem leftC_range : ∀ (c : Cell) (d : Nat) (n : Int), cellOK c → 0 ≤ n → n ≤ 4000 → -1000000000000000 ≤ leftC c d n ∧ leftC c d n ≤ 4000
  | .mk l k nm ch ins, d, n, h, h0, h1 => by
    simp only [cellOK, numOK] at h
    have hr : reachBytes = 140737488351232 := rfl
    simp only [leftC]
    exact leftAs_range ins _ _ h.2.2.2.2.2 (by omega) (by omega)
theorem leftAs_range : ∀ (xs : List Arr) (d : Nat) (n : Int), arrsOK xs → -1000000000000000 ≤ n → n ≤ 4000 → -1000000000000000 ≤ leftAs xs d n ∧ leftAs xs d n ≤ 4000
  | [], d, n, h, h0, h1 => by simp only [leftAs]; omega
  | a :: xs, d, n, h, h0, h1 => by
    simp only [arrsOK] at h
    simp only [leftAs]
    split
    · rename_i hn
      obtain ⟨k1, k2⟩ := leftA_range a d n h.1 hn h1
      exact leftAs_range xs d _ h.2 k1 k2
    · omega
end

def fewP (A : Arr) : Bool := decide (0 ≤ leftA A 12 4000)

theorem cells_len (A : Arr) : ((A.cells.map cellR).length : Int) = A.cells.length := by simp
theorem ins_len (c : Cell) : ((c.ins.map arrR).length : Int) = c.ins.length := by simp

theorem leftCs_at {cs : List Cell} {k : Nat} {c : Cell} (h : cs[k]? = some c) (d : Nat) (n : Int) (hn : 0 ≤ n) : leftCs (cs.drop k) d n = leftCs (cs.drop (k + 1)) d (leftC c d n) := by
  obtain ⟨hk, rfl⟩ := List.getElem?_eq_some_iff.1 h
  rw [List.drop_eq_getElem_cons hk, leftCs, if_pos hn]

theorem leftAs_at {xs : List Arr} {k : Nat} {a : Arr} (h : xs[k]? = some a) (d : Nat) (n : Int) (hn : 0 ≤ n) : leftAs (xs.drop k) d n = leftAs (xs.drop (k + 1)) d (leftA a d n) := by
  obtain ⟨hk, rfl⟩ := List.getElem?_eq_some_iff.1 h
  rw [List.drop_eq_getElem_cons hk, leftAs, if_pos hn]

theorem cellOK.parts {c : Cell} (h : cellOK c) : c.l < 18446744073709551616 ∧ numOK c.n ∧ c.ins.length ≤ reachBytes ∧ arrsOK c.ins := by
  obtain ⟨l, k, n, ch, ins⟩ := c
  simp only [cellOK] at h
  exact ⟨h.1, h.2.2.1, h.2.2.2.2.1, h.2.2.2.2.2⟩
theorem arrOK.parts {A : Arr} (h : arrOK A) : A.s < 18446744073709551616 ∧ A.shape.length ≤ reachBytes ∧ A.cells.length ≤ reachBytes ∧ cellsOK A.cells := by
  obtain ⟨s, sh, cs⟩ := A
  simp only [arrOK] at h
  exact ⟨h.1, h.2.2.1, h.2.2.2.1, h.2.2.2.2⟩

theorem left_a : ∀ (d : Nat) (A : Arr) (q n : Int), q = d → d ≤ 12 → arrOK A → 0 ≤ n → n ≤ 4000 → ACalls Try.prog 22 [.agg (arrV A), .lit (.int .i64 q), .lit (.int .i64 n)] (.lit (.int .i64 (leftA A d n)))
  | d, A, q, n, hq, hd, hA, hn0, hn1 => by
    have hr : reachBytes = 140737488351232 := rfl
    have lsh := intsA_len .i64 A.shape
    have lcs := cells_len A
    obtain ⟨a1, a2, a3, a4⟩ := hA.parts
    refine acalls_of code_scrimref08_left (by simp [fn_scrimref08_left]) fun C hC => ?_
    cases d with
    | zero =>
      have e : leftA A 0 n = -1 := by cases A; simp [leftA]
      rw [e]
      refine walk ?_
      exact ⟨_, _, rfl, rfl, Sub.refl _⟩
    | succ d =>
      have e : leftA A (d + 1) n = leftCs (A.cells.drop 0) (d + 1) (n - 1 - A.shape.length) := by cases A; simp [leftA, Arr.cells, Arr.shape]
      refine walk ?_
      refine aw_loop (X := Nat × Int) (fun p => ⟨[(1, .lit (.int .i64 q)), (2, .lit (.int .i64 p.2)), (3, .optr 0 0 0), (6, .lit (.int .i64 0)), (7, .lit (.int .i64 p.1))], [(0, some ⟨false, false, 26, 3, [arrV A]⟩)], 1⟩)
        (fun p => p.1 ≤ A.cells.length ∧ (-1000000000000000 ≤ p.2 ∧ p.2 ≤ 4000) ∧ leftA A (d + 1) n = leftCs (A.cells.drop p.1) (d + 1) p.2) (fun p => A.cells.length - p.1) (0, n - 1 - A.shape.length) (wk hC [(0, 0)] [1, 2, 3, 6, 7] 1) ⟨Nat.zero_le _, ⟨by simp only; omega, by simp only; omega⟩, e⟩ ?_
      rintro ⟨k, nn⟩ ⟨hk, ⟨hb1, hb2⟩, hE⟩
      simp only at hk hb1 hb2 hE
      by_cases hlt : k < A.cells.length
      · by_cases h0 : 0 ≤ nn
        · obtain ⟨c, hc⟩ : ∃ c, A.cells[k]? = some c := ⟨_, List.getElem?_eq_getElem hlt⟩
          have hck := cell_at hc
          have hcok := cellsOK_mem.1 a4 c (List.mem_of_getElem? hc)
          obtain ⟨c1, ⟨_, _, c2, c3⟩, c4, c5⟩ := hcok.parts
          have ltop := intsA_len .u32 c.n.top
          have lbot := intsA_len .u32 c.n.bot
          have lins := ins_len c
          rw [leftCs_at hc _ _ h0] at hE
          have hE' : leftA A (d + 1) n = leftCs (A.cells.drop (k + 1)) (d + 1) (leftAs (c.ins.drop 0) d (nn - 1 - c.n.top.length - c.n.bot.length)) := by rw [hE]; cases c; rfl
          refine walk ?_
          refine aw_loop (X := Nat × Int) (fun p => ⟨[(1, .lit (.int .i64 q)), (2, .lit (.int .i64 p.2)), (3, .optr 0 0 0), (6, .lit (.int .i64 0)), (7, .lit (.int .i64 k)), (8, .lit (.int .i64 p.1))], [(0, some ⟨false, false, 26, 3, [arrV A]⟩)], 1⟩)
            (fun p => p.1 ≤ c.ins.length ∧ (-1000000000000000 ≤ p.2 ∧ p.2 ≤ 4000) ∧ leftA A (d + 1) n = leftCs (A.cells.drop (k + 1)) (d + 1) (leftAs (c.ins.drop p.1) d p.2)) (fun p => c.ins.length - p.1) (0, nn - 1 - c.n.top.length - c.n.bot.length) (wk hC [(0, 0)] [1, 2, 3, 6, 7, 8] 1) ⟨Nat.zero_le _, ⟨by simp only; omega, by simp only; omega⟩, hE'⟩ ?_
          rintro ⟨j, mm⟩ ⟨hj, ⟨hm1, hm2⟩, hF⟩
          simp only at hj hm1 hm2 hF
          by_cases hlj : j < c.ins.length
          · by_cases h2 : 0 ≤ mm
            · obtain ⟨a, ha⟩ : ∃ a, c.ins[j]? = some a := ⟨_, List.getElem?_eq_getElem hlj⟩
              have hak := arr_at ha
              have haok := arrsOK_mem.1 c5 a (List.mem_of_getElem? ha)
              rw [leftAs_at ha _ _ h2] at hF
              obtain ⟨r1, r2⟩ := leftA_range a d mm haok h2 hm2
              refine walk ?_
              refine aw_reg (rrun ?_)
              refine r_call (left_a d a (q - 1) mm (by omega) (by omega) haok h2 hm2) (rrun ?_)
              refine rg_nil ⟨rfl, ?_⟩
              refine walk ?_
              exact ⟨(j + 1, leftA a d mm), by simp only; omega, ⟨by simp only; omega, ⟨r1, r2⟩, hF⟩, wk hC [(0, 0)] [1, 2, 3, 6, 7, 8] 1⟩
            · rw [leftAs_neg _ _ _ (by omega)] at hF
              refine walk ?_
              exact ⟨(k + 1, mm), by simp only; omega, ⟨by simp only; omega, ⟨hm1, hm2⟩, hF⟩, wk hC [(0, 0)] [1, 2, 3, 6, 7] 1⟩
          · rw [show c.ins.drop j = [] from List.drop_eq_nil_of_le (by omega), leftAs] at hF
            refine walk ?_
            exact ⟨(k + 1, mm), by simp only; omega, ⟨by simp only; omega, ⟨hm1, hm2⟩, hF⟩, wk hC [(0, 0)] [1, 2, 3, 6, 7] 1⟩
        · rw [leftCs_neg _ _ _ (by omega)] at hE
          rw [hE]
          refine walk ?_
          exact ⟨_, _, rfl, rfl, Sub.refl _⟩
      · rw [List.drop_eq_nil_of_le (by omega), leftCs] at hE
        rw [hE]
        refine walk ?_
        exact ⟨_, _, rfl, rfl, Sub.refl _⟩
  termination_by d => d

theorem few_a (A : Arr) (hA : arrOK A) : ACalls Try.prog 8 [.agg (arrV A)] (.lit (.bool (fewP A))) := by
  refine acalls_of code_scrimref08_Few (by simp [fn_scrimref08_Few]) fun C hC => ?_
  refine walk ?_
  refine aw_reg (rrun ?_)
  refine r_call (left_a 12 A 12 4000 rfl (by omega) hA (by omega) (by omega)) ?_
  by_cases h : 0 ≤ leftA A 12 4000
  · rw [show fewP A = true from decide_eq_true h]
    refine rrun ?_
    refine rg_nil ⟨rfl, ?_⟩
    refine walk ?_
    exact ⟨_, _, rfl, rfl, Sub.refl _⟩
  · rw [show fewP A = false from decide_eq_false h]
    refine rrun ?_
    refine rg_nil ⟨rfl, ?_⟩
    refine walk ?_
    exact ⟨_, _, rfl, rfl, Sub.refl _⟩
end Go.Proofs.Ytkgnnnehmnoleaa
