/- Arrays put together: the document's answer is catP. -/
import Derived.Test.YtfnilbkahkbljaaJoinR
import Derived.Test.YtfnilbkahkbljaaAbsN
namespace Go.Proofs.Ytfnilbkahkbljaa
set_option linter.unusedVariables false
open Go.RowKit

theorem longer_a (a b v : Int) (h : (a > b ∧ v = a) ∨ (a ≤ b ∧ v = b)) : ACalls Try.prog 71 [.lit (.int .i64 a), .lit (.int .i64 b)] (.lit (.int .i64 v)) := by
  rcases h with ⟨h, rfl⟩ | ⟨h, rfl⟩
  · refine acalls_of code_scrimref12_longer (by simp [fn_scrimref12_longer]) fun C hC => ?_
    refine walk2 ?_
    exact fin
  · refine acalls_of code_scrimref12_longer (by simp [fn_scrimref12_longer]) fun C hC => ?_
    refine walk2 ?_
    exact fin

theorem counted_same (s other : List Int) (n x : Nat) (h6 : s.length ≤ 6) (h : s.length = n) : ACalls Try.prog 72 [.sl 1 (intsA .i64 s), .sl 1 (intsA .i64 other), .lit (.int .i64 x), .lit (.int .i64 n)] (.tup [.sl 1 (intsA .i64 s), .lit (.int .i64 0)]) := by
  have ls := intsA_len .i64 s
  refine acalls_of code_scrimref12_counted (by simp [fn_scrimref12_counted]) fun C hC => ?_
  refine walk2 ?_
  exact fin

theorem counted_none (s other : List Int) (n x : Nat) (h6 : s.length ≤ 6) (hn : n ≤ 6) (h : s.length ≠ n) (h0 : s.length ≠ 0) (h1 : s.length + 1 ≠ n) : ACalls Try.prog 72 [.sl 1 (intsA .i64 s), .sl 1 (intsA .i64 other), .lit (.int .i64 x), .lit (.int .i64 n)] (.tup [.sl 1 [], .lit (.int .i64 5)]) := by
  have ls := intsA_len .i64 s
  refine acalls_of code_scrimref12_counted (by simp [fn_scrimref12_counted]) fun C hC => ?_
  refine walk2 ?_
  exact fin

theorem counted_less (s other : List Int) (n x : Nat) (h6 : s.length ≤ 6) (hn : n ≤ 6) (h0 : s.length ≠ 0) (h1 : s.length + 1 = n) (hx : x < n) : ACalls Try.prog 72 [.sl 1 (intsA .i64 s), .sl 1 (intsA .i64 other), .lit (.int .i64 x), .lit (.int .i64 n)] (.tup [.sl 1 (intsA .i64 (s.take x ++ 1 :: s.drop x)), .lit (.int .i64 0)]) := by
  have ls := intsA_len .i64 s
  have k1 := Cut.upto (k := .i64) (s := s) (b := x) (by omega)
  have k2 := Cut.from (k := .i64) (s := s) (a := x) (by omega)
  have l1 := intsA_len .i64 (s.take x)
  have l2 := intsA_len .i64 (s.drop x)
  rw [List.length_take] at l1
  rw [List.length_drop] at l2
  have hb1 : (intsA .i64 (s.take x)).length * 8 ≤ 140737488355328 := by omega
  have hb2 : ((intsA .i64 (s.take x)).length + 1) * 8 ≤ 140737488355328 := by omega
  have hb3 : ((intsA .i64 (s.take x)).length + 1 + (intsA .i64 (s.drop x)).length) * 8 ≤ 140737488355328 := by omega
  refine acalls_of code_scrimref12_counted (by simp [fn_scrimref12_counted]) fun C hC => ?_
  refine walk2 ?_
  rw [show intsA .i64 (s.take x ++ 1 :: s.drop x) = (intsA .i64 (s.take x) ++ [[.lit (.int .i64 1)]]) ++ intsA .i64 (s.drop x) from by simp [intsA]]
  exact fin

theorem counted_zero1 (x : Nat) : ACalls Try.prog 72 [.sl 1 (intsA .i64 []), .sl 1 (intsA .i64 []), .lit (.int .i64 x), .lit (.int .i64 1)] (.tup [.sl 1 (intsA .i64 [1]), .lit (.int .i64 0)]) := by
  refine acalls_of code_scrimref12_counted (by simp [fn_scrimref12_counted]) fun C hC => ?_
  refine walk2 ?_
  exact fin

theorem counted_zero (other : List Int) (n x : Nat) (hn : n ≤ 6) (h : other.length = n) (hx : x < n) : ACalls Try.prog 72 [.sl 1 (intsA .i64 []), .sl 1 (intsA .i64 other), .lit (.int .i64 x), .lit (.int .i64 n)] (.tup [.sl 1 (intsA .i64 (other.set x 1)), .lit (.int .i64 0)]) := by
  have hB : maxB = 1000000000 := rfl
  have ls : (((intsA .i64 []).length : Nat) : Int) = 0 := rfl
  have lo := intsA_len .i64 other
  have c1 := refWith_a other x 1 (by omega) (by omega)
  refine acalls_of code_scrimref12_counted (by simp [fn_scrimref12_counted]) fun C hC => ?_
  refine walk2 ?_
  exact fin

theorem counted_a (A B : Arr) (hl : A.shape.length ≤ 6) (hm : B.shape.length ≤ 6) (n x : Nat) (hn : n = axN A B) (hx : x < n) :
    (∀ s al, widP A.shape B.shape n x = some (s, al) → ACalls Try.prog 72 [.sl 1 (intsA .i64 A.shape), .sl 1 (intsA .i64 B.shape), .lit (.int .i64 x), .lit (.int .i64 n)] (.tup [.sl 1 (intsA .i64 s), .lit (.int .i64 0)])) ∧
    (widP A.shape B.shape n x = none → ACalls Try.prog 72 [.sl 1 (intsA .i64 A.shape), .sl 1 (intsA .i64 B.shape), .lit (.int .i64 x), .lit (.int .i64 n)] (.tup [.sl 1 [], .lit (.int .i64 5)])) := by
  have hn1 : A.shape.length ≤ n ∧ B.shape.length ≤ n ∧ 1 ≤ n ∧ n ≤ 6 ∧ (A.shape.length = 0 → B.shape.length = 0 → n = 1) ∧ (A.shape.length = 0 → B.shape.length ≠ 0 → n = B.shape.length) := by unfold axN at hn; omega
  unfold widP
  by_cases h1 : A.shape.length = n
  · rw [if_pos h1]
    refine ⟨fun s al h => ?_, fun h => by cases h⟩
    simp only [Option.some.injEq, Prod.mk.injEq] at h
    obtain ⟨rfl, rfl⟩ := h
    exact counted_same A.shape B.shape n x hl h1
  · rw [if_neg h1]
    by_cases h2 : A.shape = []
    · rw [if_pos h2]
      have hA0 : A.shape.length = 0 := by rw [h2]; rfl
      by_cases h3 : B.shape = []
      · rw [if_pos h3]
        refine ⟨fun s al h => ?_, fun h => by cases h⟩
        simp only [Option.some.injEq, Prod.mk.injEq] at h
        obtain ⟨rfl, rfl⟩ := h
        have e : n = 1 := hn1.2.2.2.2.1 hA0 (by rw [h3]; rfl)
        rw [h2, h3, e]
        exact counted_zero1 x
      · rw [if_neg h3]
        refine ⟨fun s al h => ?_, fun h => by cases h⟩
        simp only [Option.some.injEq, Prod.mk.injEq] at h
        obtain ⟨rfl, rfl⟩ := h
        have e : n = B.shape.length := hn1.2.2.2.2.2 hA0 (fun h => h3 (List.eq_nil_of_length_eq_zero h))
        rw [h2]
        exact counted_zero B.shape n x (by omega) e.symm hx
    · rw [if_neg h2]
      have h2' : A.shape.length ≠ 0 := fun h => h2 (List.eq_nil_of_length_eq_zero h)
      by_cases h3 : A.shape.length + 1 = n
      · rw [if_pos h3]
        refine ⟨fun s al h => ?_, fun h => by cases h⟩
        simp only [Option.some.injEq, Prod.mk.injEq] at h
        obtain ⟨rfl, rfl⟩ := h
        exact counted_less A.shape B.shape n x hl (by omega) h2' h3 hx
      · rw [if_neg h3]
        exact ⟨fun s al h => (by cases h), fun _ => counted_none A.shape B.shape n x hl (by omega) h1 h2' h3⟩

theorem at_alone (A : Arr) (s d : List Int) (c : Cell) (h : A.shape = []) (hc : A.cells[0]? = some c) : ACalls Try.prog 76 [.agg (arrV A), .sl 1 (intsA .i64 s), .sl 1 (intsA .i64 d)] (.agg (cellV c)) := by
  have hcv : (A.cells.map cellR)[(0 : Int).toNat]? = some (cellV c) := cell_at hc
  have hcl : 0 < ((A.cells.map cellR).length : Int) := by
    have := (List.getElem?_eq_some_iff.1 hc).1
    simp; omega
  refine acalls_of code_scrimref12_at (by simp [fn_scrimref12_at]) fun C hC => ?_
  unfold arrV
  rw [h]
  refine walk2 ?_
  exact fin

theorem at_plain (A : Arr) (s d : List Int) (c : Cell) (k : Nat) (h : A.shape.length ≠ 0) (hk : findL (placesL s) d 0 = k) (h0 : (cnt s).2 = 0) (hc : A.cells[k]? = some c) : ACalls Try.prog 76 [.agg (arrV A), .sl 1 (intsA .i64 s), .sl 1 (intsA .i64 d)] (.agg (cellV c)) := by
  have ls := intsA_len .i64 A.shape
  have c1 := refIndex_a s d h0
  rw [hk] at c1
  have hcv : (A.cells.map cellR)[((k : Nat) : Int).toNat]? = some (cellV c) := cell_at hc
  have hcl : (k : Int) < ((A.cells.map cellR).length : Int) := by
    have := (List.getElem?_eq_some_iff.1 hc).1
    simp; omega
  refine acalls_of code_scrimref12_at (by simp [fn_scrimref12_at]) fun C hC => ?_
  refine walk2 ?_
  exact fin

theorem cnt_ok {s : List Int} (h6 : s.length ≤ 6) (hs : Small s) (hp : prodL s ≤ 2048) : (cnt s).2 = 0 := by
  unfold cnt
  rw [if_neg (by omega), if_neg (by simp only [List.any_eq_true, decide_eq_true_eq, not_exists, not_and]; exact fun z hz => by have := (hs z hz).1; omega), if_neg (by simp only [List.any_eq_true, decide_eq_true_eq, not_exists, not_and]; exact fun z hz => by have := (hs z hz).2; omega)]
  split
  · rfl
  · rename_i h
    have hpos : ∀ z ∈ s, 0 < z := fun z hz => by
      have h1 := (hs z hz).1
      rcases Int.lt_or_eq_of_le h1 with h2 | h2
      · exact h2
      · subst h2
        exact absurd (List.any_eq_true.2 ⟨0, hz, by simp⟩) h
    have e := prodC_le s 1 (by omega) hpos (by omega)
    have := prodL_pos s hpos
    rw [if_neg (by omega)]

theorem dig3 {s1 s2 : List Int} {L : Int} (hp : ∀ z ∈ s2, 0 < z) (q j r B l : Nat) (hB : prodL s2 = B) (hr : r < B) (hL : L = l) (hj : j < l) :
    (digR (s1 ++ L :: s2) (((q * l + j) * B + r : Nat) : Int)).2 = (digR s1 q).2 ++ (j : Int) :: (digR s2 r).2 := by
  have e1 : (digR s2 (((q * l + j) * B + r : Nat) : Int)).1 = ((q * l + j : Nat) : Int) := by
    rw [digR_fst s2 _ hp, hB, ← Int.natCast_ediv]
    rw [Nat.add_comm, Nat.add_mul_div_right _ _ (by omega), Nat.div_eq_of_lt hr, Nat.zero_add]
  have e2 : (digR s2 (((q * l + j) * B + r : Nat) : Int)).2 = (digR s2 r).2 := digR_mod s2 _ _ hp (by
    rw [hB, ← Int.natCast_emod, ← Int.natCast_emod, Nat.add_comm, Nat.add_mul_mod_self_right])
  rw [digR_append]
  have e3 : digR (L :: s2) (((q * l + j) * B + r : Nat) : Int) = ((q : Int), (j : Int) :: (digR s2 r).2) := by
    show (_, _) = _
    rw [e1, e2, hL]
    have h1 : ((q * l + j : Nat) : Int) / (l : Int) = q := by
      rw [← Int.natCast_ediv, Nat.add_comm, Nat.add_mul_div_right _ _ (by omega), Nat.div_eq_of_lt hj, Nat.zero_add]
    have h2 : ((q * l + j : Nat) : Int) % (l : Int) = j := by
      rw [← Int.natCast_emod, Nat.add_comm, Nat.add_mul_mod_self_right, Nat.mod_eq_of_lt hj]
    rw [h1, h2]
  rw [e3]
end Go.Proofs.Ytfnilbkahkbljaa
namespace Go.Proofs.Ytfnilbkahkbljaa
set_option linter.unusedVariables false
open Go.RowKit

theorem cat_cell {A B : Arr} (hA : okJ A) (hB : okJ B) {first : Bool} {s t : List Int} {al bl : Bool} {x n1 n2 : Nat} {u : List Int} (K : Cat A B first s t al bl x n1 n2 u) (hw : wout s x = wout t x) (hu : (cnt u).2 = 0) (i : Nat) (hi : (i : Int) < (cnt u).1) :
    ∃ j : Nat, (digR u (i : Int)).2[x]? = some (j : Int) ∧ j < n1 + n2 ∧
      ((j < n1 ∧ ACalls Try.prog 76 [.agg (arrV A), .sl 1 (intsA .i64 s), .sl 1 (intsA .i64 (digR u (i : Int)).2)] (.agg (cellV (catC (n1 * behindN u x) (n2 * behindN u x) al A.cells bl B.cells i)))) ∨
       (n1 ≤ j ∧ ACalls Try.prog 76 [.agg (arrV B), .sl 1 (intsA .i64 t), .sl 1 (intsA .i64 ((digR u (i : Int)).2.set x ((j : Int) - n1)))] (.agg (cellV (catC (n1 * behindN u x) (n2 * behindN u x) al A.cells bl B.cells i))))) := by
  obtain ⟨hux, hcnt, _, _, hut, hud, htt, htd⟩ := K.sizes hw hu
  have hss := split_at K.sx
  have hts := split_at K.tx
  have hus := split_at hux
  rw [hut, hud] at hus
  rw [htt, htd] at hts
  have hxs := (List.getElem?_eq_some_iff.1 K.sx).1
  have hls1 : (s.take x).length = x := by simp; omega
  rcases geo hu hux with ⟨hpos, g1, g2, _⟩ | ⟨_, h0, _⟩
  case inr => omega
  rw [hut] at g1
  rw [hud] at g2
  generalize hs1 : s.take x = s1 at *
  generalize hs2 : s.drop (x + 1) = s2 at *
  generalize behindN u x = Bd at *
  generalize aheadN u x = Ad at *
  have hp1 : ∀ z ∈ s1, 0 < z := fun z hz => hpos z (by rw [hus]; simp [hz])
  have hp2 : ∀ z ∈ s2, 0 < z := fun z hz => hpos z (by rw [hus]; simp [hz])
  have hBd : 0 < Bd := by have := prodL_pos s2 hp2; omega
  have hL : 0 < n1 + n2 := by have := hpos ((n1 + n2 : Nat) : Int) (by rw [hus]; simp); omega
  rw [hcnt] at hi
  have hi' : i < Ad * (n1 * Bd + n2 * Bd) := by omega
  have eW : n1 * Bd + n2 * Bd = (n1 + n2) * Bd := (Nat.add_mul ..).symm
  have hW : 0 < n1 * Bd + n2 * Bd := by rw [eW]; exact Nat.mul_pos hL hBd
  have hdm := Nat.div_add_mod i (n1 * Bd + n2 * Bd)
  have hmlt := Nat.mod_lt i hW
  have hqlt : i / (n1 * Bd + n2 * Bd) < Ad := Nat.div_lt_of_lt_mul (by rw [Nat.mul_comm]; exact hi')
  unfold catC
  generalize hq : i / (n1 * Bd + n2 * Bd) = q at *
  generalize hm : i % (n1 * Bd + n2 * Bd) = m at *
  have hmd := Nat.div_add_mod m Bd
  have hr := Nat.mod_lt m hBd
  have hjlt : m / Bd < n1 + n2 := Nat.div_lt_of_lt_mul (by rw [Nat.mul_comm, ← eW]; exact hmlt)
  generalize hj : m / Bd = j at *
  generalize hre : m % Bd = r at *
  have ei : i = (q * (n1 + n2) + j) * Bd + r := by
    rw [Nat.add_mul, Nat.mul_assoc, ← eW, Nat.mul_comm q, Nat.mul_comm j]; omega
  have hd : (digR u (i : Int)).2 = (digR s1 q).2 ++ (j : Int) :: (digR s2 r).2 := by
    rw [hus, ei]
    exact dig3 hp2 q j r Bd (n1 + n2) g2 hr rfl hjlt
  have hdl := digR_len s1 (q : Int)
  rw [hls1] at hdl
  have hlim : m < n1 * Bd ↔ j < n1 := by
    constructor
    · intro h
      rw [← hj]
      exact Nat.div_lt_of_lt_mul (by rw [Nat.mul_comm]; exact h)
    · intro h
      have : (j + 1) * Bd ≤ n1 * Bd := Nat.mul_le_mul_right _ h
      rw [Nat.add_mul, Nat.one_mul, Nat.mul_comm j] at this
      omega
  refine ⟨j, by rw [hd, List.getElem?_append_right (by omega), hdl, Nat.sub_self]; rfl, hjlt, ?_⟩
  by_cases hjn : j < n1
  · left
    refine ⟨hjn, ?_⟩
    rw [if_pos (hlim.2 hjn)]
    cases al with
    | true =>
      obtain ⟨ha, hc⟩ := K.al1 rfl
      have : A.cells[0]? = some (cellP true A.cells (q * (n1 * Bd) + m)) := by
        unfold cellP
        rw [if_pos rfl, List.getD_eq_getElem?_getD, List.getElem?_eq_getElem (by omega)]; rfl
      exact at_alone A s _ _ ha this
    | false =>
      obtain ⟨ha, hc⟩ := K.al0 rfl
      have ep : prodL s = ((Ad * (n1 * Bd) : Nat) : Int) := by
        rw [hss, prodL_append, prodL_cons, g1, g2, Int.natCast_mul, Int.natCast_mul]
      have hk : q * (n1 * Bd) + m < Ad * (n1 * Bd) := by
        have : (q + 1) * (n1 * Bd) ≤ Ad * (n1 * Bd) := Nat.mul_le_mul_right _ hqlt
        rw [Nat.add_mul, Nat.one_mul] at this
        have := hlim.2 hjn
        omega
      have ek : q * (n1 * Bd) + m = (q * n1 + j) * Bd + r := by
        rw [Nat.add_mul, Nat.mul_assoc, Nat.mul_comm j]; omega
      have hps : ∀ z ∈ s, 0 < z := fun z hz => by
        rw [hss, List.mem_append, List.mem_cons] at hz
        rcases hz with hz | hz | hz
        · exact hp1 z hz
        · omega
        · exact hp2 z hz
      have hf := find_digR hps (N := ((q * (n1 * Bd) + m : Nat) : Int)) (by omega) (by rw [ep]; omega)
      have hds : (digR s ((q * (n1 * Bd) + m : Nat) : Int)).2 = (digR u (i : Int)).2 := by
        rw [hd, hss, ek]
        exact dig3 hp2 q j r Bd n1 g2 hr rfl hjn
      rw [hds] at hf
      have hcell : A.cells[q * (n1 * Bd) + m]? = some (cellP false A.cells (q * (n1 * Bd) + m)) := by
        unfold cellP
        rw [if_neg (by simp), List.getD_eq_getElem?_getD, List.getElem?_eq_getElem (by omega)]; rfl
      exact at_plain A s _ _ _ (fun h => ha (List.eq_nil_of_length_eq_zero h)) hf (cnt_ok (by rw [K.ls]; exact K.l6) K.ss (by have := hA.cells; omega)) hcell
  · right
    refine ⟨by omega, ?_⟩
    rw [if_neg (fun h => hjn (hlim.1 h))]
    have hset : (digR u (i : Int)).2.set x ((j : Int) - n1) = (digR s1 q).2 ++ ((j - n1 : Nat) : Int) :: (digR s2 r).2 := by
      rw [hd, List.set_append, if_neg (by omega), hdl, Nat.sub_self, List.set_cons_zero]
      congr 2
      omega
    have hm1 : n1 * Bd ≤ m := by
      rcases Nat.lt_or_ge m (n1 * Bd) with h | h
      · exact absurd (hlim.1 h) hjn
      · exact h
    cases bl with
    | true =>
      obtain ⟨ha, hc⟩ := K.bl1 rfl
      have : B.cells[0]? = some (cellP true B.cells (q * (n2 * Bd) + (m - n1 * Bd))) := by
        unfold cellP
        rw [if_pos rfl, List.getD_eq_getElem?_getD, List.getElem?_eq_getElem (by omega)]; rfl
      exact at_alone B t _ _ ha this
    | false =>
      obtain ⟨ha, hc⟩ := K.bl0 rfl
      have ep : prodL t = ((Ad * (n2 * Bd) : Nat) : Int) := by
        rw [hts, prodL_append, prodL_cons, g1, g2, Int.natCast_mul, Int.natCast_mul]
      have hk : q * (n2 * Bd) + (m - n1 * Bd) < Ad * (n2 * Bd) := by
        have : (q + 1) * (n2 * Bd) ≤ Ad * (n2 * Bd) := Nat.mul_le_mul_right _ hqlt
        rw [Nat.add_mul, Nat.one_mul] at this
        omega
      have ek : q * (n2 * Bd) + (m - n1 * Bd) = (q * n2 + (j - n1)) * Bd + r := by
        have h2 : (j - n1) * Bd = Bd * j - n1 * Bd := by rw [Nat.sub_mul, Nat.mul_comm j]
        rw [Nat.add_mul, Nat.mul_assoc, h2]
        have : n1 * Bd ≤ Bd * j := by rw [Nat.mul_comm Bd]; exact Nat.mul_le_mul_right _ (by omega)
        omega
      have hps : ∀ z ∈ t, 0 < z := fun z hz => by
        rw [hts, List.mem_append, List.mem_cons] at hz
        rcases hz with hz | hz | hz
        · exact hp1 z hz
        · omega
        · exact hp2 z hz
      have hf := find_digR hps (N := ((q * (n2 * Bd) + (m - n1 * Bd) : Nat) : Int)) (by omega) (by rw [ep]; omega)
      have hds : (digR t ((q * (n2 * Bd) + (m - n1 * Bd) : Nat) : Int)).2 = (digR u (i : Int)).2.set x ((j : Int) - n1) := by
        rw [hset, hts, ek]
        exact dig3 hp2 q (j - n1) r Bd n2 g2 hr rfl (by omega)
      rw [hds] at hf
      have hcell : B.cells[q * (n2 * Bd) + (m - n1 * Bd)]? = some (cellP false B.cells (q * (n2 * Bd) + (m - n1 * Bd))) := by
        unfold cellP
        rw [if_neg (by simp), List.getD_eq_getElem?_getD, List.getElem?_eq_getElem (by omega)]; rfl
      exact at_plain B t _ _ _ (fun h => ha (List.eq_nil_of_length_eq_zero h)) hf (cnt_ok (by rw [K.lt]; exact K.l6) K.st (by have := hB.cells; omega)) hcell

theorem intsP_eq (s t : List Int) : intsP s t = decide (s = t) := by unfold intsP; rw [Bool.eq_iff_iff]; simp

set_option maxHeartbeats 2000000 in
theorem refCat_ok {A B : Arr} (hA : okJ A) (hB : okJ B) {first : Bool} {s t : List Int} {al bl : Bool} {n1 n2 : Nat} {u : List Int} (K : Cat A B first s t al bl (atN A B first) n1 n2 u) (b1 : n1 ≤ 2048) (b2 : n2 ≤ 2048) (hw : wout s (atN A B first) = wout t (atN A B first)) (h0 : (cnt u).2 = 0)
    (X : List Cell) (hX : X = catL (n1 * behindN u (atN A B first)) (n2 * behindN u (atN A B first)) al A.cells bl B.cells (aheadN u (atN A B first) * (n1 * behindN u (atN A B first) + n2 * behindN u (atN A B first)))) :
    ACalls Try.prog 26 [.agg (arrV A), .agg (arrV B), .lit (.bool first)] (.tup [.agg (arrV (.mk (A.s ||| B.s) u X)), .lit (.int .i64 0)]) := by
  have hB0 : maxB = 1000000000 := rfl
  have hl1 := hA.len
  have hl2 := hB.len
  have lA := intsA_len .i64 A.shape
  have lB := intsA_len .i64 B.shape
  have hx : atN A B first < axN A B := by unfold atN axN; split <;> omega
  have w1 := (counted_a A B hl1 hl2 (axN A B) (atN A B first) rfl hx).1 s al K.w1
  have w2 := (counted_a B A hl2 hl1 (axN A B) (atN A B first) (axN_comm A B) hx).1 t bl K.w2
  have hxs := (List.getElem?_eq_some_iff.1 K.sx).1
  have hxt := (List.getElem?_eq_some_iff.1 K.tx).1
  have h6 := K.l6
  have hls := K.ls
  have hlt := K.lt
  have w3 := refWithout_a s (atN A B first) hxs (by omega)
  have w4 := refWithout_a t (atN A B first) hxt (by omega)
  have w5 := ints_a (wout s (atN A B first)) (wout t (atN A B first))
  rw [intsP_eq, hw, decide_eq_true rfl] at w5
  unfold wout at w5
  rw [show s.take (atN A B first) ++ s.drop (atN A B first + 1) = t.take (atN A B first) ++ t.drop (atN A B first + 1) from hw] at w3
  have w6 := refWith_a s (atN A B first) ((n1 : Int) + n2) hxs (by omega)
  rw [← K.hu] at w6
  have w7 := rcount_a u
  rw [rcnt_eq, h0] at w7
  have w8 := places_a u h0
  have w9 := rjoin_a A.s B.s hA.ok.parts.1 hB.ok.parts.1
  have hcell := fun i hi => cat_cell hA hB K hw h0 i hi
  have hsz := (K.sizes hw h0).2.1
  have hll1 := longer_a A.shape.length B.shape.length (max A.shape.length B.shape.length : Nat) (by omega)
  have hll2 := longer_a 1 (max A.shape.length B.shape.length : Nat) (axN A B : Nat) (by unfold axN; omega)
  have hk : (first = false ∧ ((atN A B first : Nat) : Int) = ((axN A B : Nat) : Int) - 1) ∨ (first = true ∧ ((atN A B first : Nat) : Int) = 0) := by
    unfold atN; cases first
    · left; simp; omega
    · right; simp
  have hsx : (intsA .i64 s)[((atN A B first : Nat) : Int).toNat]? = some [.lit (.int .i64 (n1 : Int))] := int_at K.sx
  have htx : (intsA .i64 t)[((atN A B first : Nat) : Int).toNat]? = some [.lit (.int .i64 (n2 : Int))] := int_at K.tx
  have lis := intsA_len .i64 s
  have lit := intsA_len .i64 t
  have hup := cnt_prod h0
  have hule := cnt_le u
  have hul : u.length = axN A B := by rw [K.hu, List.length_set, hls]
  have hPlen : (placesL u).length = (cnt u).1.toNat := by rw [placesL_len, hup]
  have hPat : ∀ i : Nat, (i : Int) < (cnt u).1 → (placesL u)[i]? = some (digR u i).2 := fun i hi => placesL_at u (by omega)
  have hdl : ∀ i : Nat, (digR u (i : Int)).2.length = axN A B := fun i => by rw [digR_len, hul]
  have hXl : X.length = (cnt u).1.toNat := by rw [hX, catL_len, hsz]; rfl
  have hXat : ∀ i : Nat, (i : Int) < (cnt u).1 → X[i]? = some (catC (n1 * behindN u (atN A B first)) (n2 * behindN u (atN A B first)) al A.cells bl B.cells i) := fun i hi => by
    rw [hX]; unfold catL
    rw [List.getElem?_map, List.getElem?_range (by omega)]; rfl
  generalize hN : axN A B = N at *
  generalize hxe : atN A B first = x at *
  clear hX hA hB K hw hsz hup
  generalize (cnt u).1 = T at *
  generalize hPd : placesL u = P at *
  have hPl' : ((P.map placeV).length : Int) = T := by simp; omega
  refine acalls_of code_scrimref12_Catenate (by simp [fn_scrimref12_Catenate]) fun C hC => ?_
  have hsx' := hsx
  have htx' := htx
  rcases hk with ⟨rfl, hk⟩ | ⟨rfl, hk⟩
  all_goals
    rw [hk] at w1 w2 w3 w4 w6 hsx' htx'
    refine walk2 ?_
    refine aw_slotZ 9 (.lit (.int .i64 ((x : Nat) : Int))) (by rw [hk]; rfl) ?_
    refine aw_nilF 3 2 76 7 rfl rfl rfl rfl ?_
    clear hsx' htx' w1 w2 w3 w4 w5 w6 w7 w8 w9
    refine aw_loopB [3, 4, 6, 22, 23, 9, 10, 12] [0, 1, 2] (fun i : Nat => [(24, .lit (.int .i64 i))]) (fun i => [(3, some ⟨false, false, 26, 3, [[labV (A.s ||| B.s), .sl 1 (intsA .i64 u), .own 4]]⟩), (4, some ⟨true, false, 76, 7, (X.take i).map cellR⟩)]) 5
      (fun i => (i : Int) ≤ T) (fun i => T.toNat - i) 0 (by omega) ?_
    rintro i hi
    dsimp only [List.cons_append, List.nil_append]
    by_cases hil : (i : Int) < T
    · obtain ⟨j, hj, hjb, hcc⟩ := hcell i hil
      have hpk : (P.map placeV)[((i : Nat) : Int).toNat]? = some [.sl 1 (intsA .i64 (digR u i).2)] := by rw [Int.toNat_natCast]; simp [hPat i hil, placeV]
      have hat := hXat i hil
      have hdli := hdl i
      have hms : (X.take i).map cellR ++ [cellV (catC (n1 * behindN u x) (n2 * behindN u x) al A.cells bl B.cells i)] = (X.take (i + 1)).map cellR := by
        rw [takeA_snoc hat]; simp [cellR_eq]
      have hlm : ((X.take i).map cellR).length = i := by simp; omega
      generalize catC (n1 * behindN u x) (n2 * behindN u x) al A.cells bl B.cells i = c at hcc hms
      generalize (digR u (i : Int)).2 = d at hj hcc hpk hdli
      have hdk : (intsA .i64 d)[((x : Nat) : Int).toNat]? = some [.lit (.int .i64 (j : Int))] := int_at hj
      have ldi := intsA_len .i64 d
      clear hPat hXat hcell hat
      rcases hcc with ⟨hjn, cc⟩ | ⟨hjn, cc⟩
      · refine walk2 ?_
        exact ⟨i + 1, by omega, by omega, wkR hC.m [(4, 6)] (by rw [← hms]; rfl)⟩
      · have cW := refWith_a d x ((j : Int) - n1) (by omega) (by omega)
        refine walk2 ?_
        exact ⟨i + 1, by omega, by omega, wkR hC.m [(4, 6)] (by rw [← hms]; rfl)⟩
    · rw [show X.take i = X from List.take_of_length_le (by omega)]
      refine walk2 ?_
      exact fin
end Go.Proofs.Ytfnilbkahkbljaa
