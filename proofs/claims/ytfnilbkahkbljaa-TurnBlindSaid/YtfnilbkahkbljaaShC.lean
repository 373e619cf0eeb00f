/- Places and shapes: what the reference's functions answer. -/
import Derived.Test.YtfnilbkahkbljaaShB
namespace Go.Proofs.Ytfnilbkahkbljaa
set_option linter.unusedVariables false
open Go.RowKit

theorem refWith_a (s : List Int) (a : Nat) (n : Int) (h : a < s.length) (hl : s.length ≤ maxB) : ACalls Try.prog 73 [.sl 1 (intsA .i64 s), .lit (.int .i64 a), .lit (.int .i64 n)] (.tup [.sl 1 (intsA .i64 (s.set a n)), .lit (.bool true)]) := by
  have hB : maxB = 1000000000 := rfl
  have ls := intsA_len .i64 s
  have k1 := Cut.upto (k := .i64) (s := s) (b := a) (by omega)
  have k2 := Cut.from (k := .i64) (s := s) (a := a + 1) (by omega)
  have e : intsA .i64 (s.set a n) = (intsA .i64 (s.take a) ++ [[.lit (.int .i64 n)]]) ++ intsA .i64 (s.drop (a + 1)) := by
    rw [← set_cut s a h n]; simp [intsA]
  refine acalls_of code_scrimref07_With (by simp [fn_scrimref07_With]) fun C hC => ?_
  refine walk2 ?_
  rw [e]
  exact fin

theorem refWithout_a (s : List Int) (a : Nat) (h : a < s.length) (hl : s.length ≤ maxB) : ACalls Try.prog 58 [.sl 1 (intsA .i64 s), .lit (.int .i64 a)] (.tup [.sl 1 (intsA .i64 (s.take a ++ s.drop (a + 1))), .lit (.bool true)]) := by
  have hB : maxB = 1000000000 := rfl
  have ls := intsA_len .i64 s
  have k1 := Cut.upto (k := .i64) (s := s) (b := a) (by omega)
  have k2 := Cut.from (k := .i64) (s := s) (a := a + 1) (by omega)
  refine acalls_of code_scrimref07_Without (by simp [fn_scrimref07_Without]) fun C hC => ?_
  refine walk2 ?_
  rw [← intsA_app]
  exact fin

theorem incR_at {s d : List Int} {k : Nat} {z x : Int} (h : s[k]? = some z) (h' : d[k]? = some x) : incR (s.drop k) (d.drop k) =
    if (incR (s.drop (k + 1)) (d.drop (k + 1))).1 then (if x + 1 < z then (false, (x + 1) :: (incR (s.drop (k + 1)) (d.drop (k + 1))).2) else (true, 0 :: (incR (s.drop (k + 1)) (d.drop (k + 1))).2)) else (false, x :: (incR (s.drop (k + 1)) (d.drop (k + 1))).2) := by
  rw [dropA_cons h, dropA_cons h', incR]

theorem take_set_app {d : List Int} {k : Nat} (h : k < d.length) (r : List Int) (v : Int) : (d.take (k + 1) ++ r).set k v = d.take k ++ v :: r := by
  rw [List.take_succ_eq_append_getElem h, List.append_assoc, List.set_append_right _ _ (by simp only [List.length_take]; omega)]
  simp [Nat.min_eq_left (Nat.le_of_lt h)]

theorem next_a (s d : List Int) (hl : s.length = d.length) (lb : s.length ≤ 1000) (hd : ∀ x ∈ d, 0 ≤ x ∧ x ≤ 1000000) : ACalls Try.prog 109 [.sl 1 (intsA .i64 s), .sl 1 (intsA .i64 d)] (.sl 1 (intsA .i64 (incR s d).2)) := by
  have ls := intsA_len .i64 s
  have ld := intsA_len .i64 d
  have e0 : d.take s.length ++ (incR (s.drop s.length) (d.drop s.length)).2 = d := by
    rw [List.drop_length, incR_nil, hl]; simp
  refine acalls_of code_scrimref07_next (by simp [fn_scrimref07_next]) fun C hC => ?_
  refine walk2 ?_
  refine aw_loopB [0, 1, 4] [] (fun n : Nat => [(5, .own 0), (6, .lit (.int .i64 ((n : Int) - 1)))]) (fun n => [(0, some ⟨true, false, 3, 1, intsA .i64 (d.take n ++ (incR (s.drop n) (d.drop n)).2)⟩)]) 1
    (fun n => n ≤ s.length ∧ (incR (s.drop n) (d.drop n)).1 = true) (fun n => n) s.length ⟨Nat.le_refl _, by simp [incR]⟩ ?_
    (hh := by rw [e0]; rfl)
  rintro n ⟨hn, hcr⟩
  dsimp only [List.cons_append, List.nil_append]
  cases n with
  | zero =>
    simp only [List.drop_zero, List.take_zero, List.nil_append]
    refine walk2 ?_
    exact fin
  | succ k =>
    obtain ⟨z, hz⟩ : ∃ z, s[k]? = some z := ⟨_, List.getElem?_eq_getElem (by omega)⟩
    obtain ⟨x, hx⟩ : ∃ x, d[k]? = some x := ⟨_, List.getElem?_eq_getElem (by omega)⟩
    have hi : (((k + 1 : Nat) : Int) - 1).toNat = k := by omega
    have hxr := hd x (List.mem_of_getElem? hx)
    have hzk : (intsA .i64 s)[(((k + 1 : Nat) : Int) - 1).toNat]? = some [.lit (.int .i64 z)] := by rw [hi]; exact int_at hz
    have hinc := incR_at hz hx
    rw [hcr] at hinc
    simp only [if_true] at hinc
    have hkl : k < d.length := by omega
    have hlr := incR_len (s.drop (k + 1)) (d.drop (k + 1))
    have hstop := incR_stop k s d hl (by omega)
    generalize (incR (s.drop (k + 1)) (d.drop (k + 1))).2 = R at hinc hlr ⊢
    rw [List.length_drop] at hlr
    have hrow : (intsA .i64 (d.take (k + 1) ++ R))[(((k + 1 : Nat) : Int) - 1).toNat]? = some [.lit (.int .i64 x)] := by
      rw [hi]; refine int_at ?_
      rw [List.getElem?_append_left (by simp; omega), List.getElem?_take, if_pos (by omega)]; exact hx
    have hll : (intsA .i64 (d.take (k + 1) ++ R)).length = k + 1 + R.length := by simp [intsA]; omega
    have hset1 : (intsA .i64 (d.take (k + 1) ++ R)).set (((k + 1 : Nat) : Int) - 1).toNat [.lit (.int .i64 (x + 1))] = intsA .i64 (d.take k ++ (x + 1) :: R) := by
      rw [hi, intsA_set, take_set_app hkl]
    have hset0 : ((intsA .i64 (d.take (k + 1) ++ R)).set (((k + 1 : Nat) : Int) - 1).toNat [.lit (.int .i64 (x + 1))]).set (((k + 1 : Nat) : Int) - 1).toNat [.lit (.int .i64 0)] = intsA .i64 (d.take k ++ 0 :: R) := by
      rw [List.set_set, hi, intsA_set, take_set_app hkl]
    have hget1 : ((intsA .i64 (d.take (k + 1) ++ R)).set (((k + 1 : Nat) : Int) - 1).toNat [.lit (.int .i64 (x + 1))])[(((k + 1 : Nat) : Int) - 1).toNat]? = some [.lit (.int .i64 (x + 1))] := by
      rw [hi, List.getElem?_set_self (by rw [hll]; omega)]
    by_cases h1 : x + 1 < z
    · rw [if_pos h1] at hinc
      have hst := hstop (by rw [hinc])
      rw [hinc] at hst
      rw [hst]
      simp only
      rw [← hset1]
      refine walk2 ?_
      exact fin
    · rw [if_neg h1] at hinc
      refine walk2 ?_
      refine ⟨k, by omega, ⟨by omega, by rw [hinc]⟩, wkR hC.m [] ?_⟩
      rw [hinc, show ((k : Nat) : Int) - 1 = ((k + 1 : Nat) : Int) - 1 - 1 from by omega]
      simp only
      rw [← hset0]
      rfl

/-- the places of a shape, in order -/
def placesL (s : List Int) : List (List Int) := (List.range (prodL s).toNat).map fun i : Nat => (digR s (i : Int)).2
def placeV (p : List Int) : List AV := [.sl 1 (intsA .i64 p)]
theorem placesL_len (s : List Int) : (placesL s).length = (prodL s).toNat := by simp [placesL]
theorem placesL_at (s : List Int) {i : Nat} (h : i < (prodL s).toNat) : (placesL s)[i]? = some (digR s i).2 := by simp [placesL, h]

theorem digR_range : ∀ (s : List Int) (n : Int), Small s → ∀ x ∈ (digR s n).2, 0 ≤ x ∧ x ≤ 1000000 ∨ (∃ z ∈ s, z = 0)
  | [], n, _, x, hx => by simp [digR] at hx
  | z :: s, n, hs, x, hx => by
    simp only [digR, List.mem_cons] at hx
    have hz := hs z (by simp)
    by_cases h0 : z = 0
    · exact .inr ⟨z, by simp, h0⟩
    rcases hx with rfl | hx
    · left
      have h1 := Int.emod_nonneg (digR s n).1 h0
      have h2 := Int.emod_lt_of_pos (digR s n).1 (show 0 < z by omega)
      omega
    · rcases digR_range s n (fun y hy => hs y (by simp [hy])) x hx with h | ⟨y, hy, e⟩
      · exact .inl h
      · exact .inr ⟨y, by simp [hy], e⟩

theorem places_a (s : List Int) (h1 : (cnt s).2 = 0) : ACalls Try.prog 59 [.sl 1 (intsA .i64 s)] (.sl 1 ((placesL s).map placeV)) := by
  have ls := intsA_len .i64 s
  have hl6 := cnt_len h1
  have hsm := cnt_small h1
  have hle := cnt_le s
  have hpr := cnt_prod h1
  have c1 := rcount_a s
  rw [rcnt_eq, h1, hpr] at c1
  rw [hpr] at hle
  have hz0 := digR_zero s
  refine acalls_of code_scrimref07_Places (by simp [fn_scrimref07_Places]) fun C hC => ?_
  refine walk2 ?_
  refine aw_nil 5 23 1 rfl ?_
  refine aw_freeze 0 rfl ?_
  refine aw_view 6 rfl rfl ?_
  refine aw_loopB [0, 2, 3] [] (fun k : Nat => [(5, .own 1), (6, .sl 1 (intsA .i64 (digR s k).2)), (7, .lit (.int .i64 k))]) (fun k => [(1, some ⟨true, false, 23, 1, ((placesL s).take k).map placeV⟩)]) 2
    (fun k => k ≤ (prodL s).toNat) (fun k => (prodL s).toNat - k) 0 (Nat.zero_le _) ?_
    (ht := by rw [show ((0 : Nat) : Int) = 0 from rfl, hz0.1, ← intsA_rep]; rfl)
  rintro k hk
  dsimp only [List.cons_append, List.nil_append]
  have hlen : ((placesL s).take k).length ≤ k := by rw [List.length_take]; omega
  by_cases hlt : k < (prodL s).toNat
  · have hpos := pos_of_prod hsm (by omega)
    have c2 := next_a s (digR s k).2 (digR_len s k).symm (by omega) (fun x hx => by
      rcases digR_range s k hsm x hx with h | ⟨z, hz, e⟩
      · exact h
      · have := hpos z hz; omega)
    rw [incR_digR s k hpos] at c2
    simp only at c2
    have hat := placesL_at s hlt
    have hms := mapK_step placeV (placesL s) k _ hat
    unfold mapK at hms
    refine walk2 ?_
    exact ⟨k + 1, by omega, by omega, wkR hC.m [(1, 3)] (by rw [← hms]; rfl)⟩
  · rw [List.take_of_length_le (by rw [placesL_len]; omega)]
    refine walk2 ?_
    exact fin

/-- where a place stands in a list; -1: nowhere -/
def findL (l : List (List Int)) (d : List Int) : Nat → Int
  | n => match l with
    | [] => -1
    | p :: r => if intsP p d then (n : Int) else findL r d (n + 1)

theorem findL_at {l : List (List Int)} {d p : List Int} {k : Nat} (h : l[k]? = some p) (n : Nat) : findL (l.drop k) d n = if intsP p d then (n : Int) else findL (l.drop (k + 1)) d (n + 1) := by
  obtain ⟨hk, rfl⟩ := List.getElem?_eq_some_iff.1 h
  rw [List.drop_eq_getElem_cons hk, findL]

theorem refIndex_a (s d : List Int) (h1 : (cnt s).2 = 0) : ACalls Try.prog 60 [.sl 1 (intsA .i64 s), .sl 1 (intsA .i64 d)] (.lit (.int .i64 (findL (placesL s) d 0))) := by
  have c1 := places_a s h1
  have hle := cnt_le s
  rw [cnt_prod h1] at hle
  have hpl := placesL_len s
  have hll : (((placesL s).map placeV).length : Int) = (placesL s).length := by simp
  refine acalls_of code_scrimref07_Index (by simp [fn_scrimref07_Index]) fun C hC => ?_
  refine walk2 ?_
  refine aw_loopB [0, 1, 4, 5] [] (fun k : Nat => [(6, .lit (.int .i64 k))]) (fun _ => []) 0 (fun k => k ≤ (placesL s).length ∧ findL (placesL s) d 0 = findL ((placesL s).drop k) d k) (fun k => (placesL s).length - k) 0 ⟨Nat.zero_le _, rfl⟩ ?_
  rintro k ⟨hk, hE⟩
  dsimp only [List.cons_append, List.nil_append]
  generalize findL (placesL s) d 0 = G at hE ⊢
  by_cases hlt : k < (placesL s).length
  · obtain ⟨p, hp⟩ : ∃ p, (placesL s)[k]? = some p := ⟨_, List.getElem?_eq_getElem hlt⟩
    have hpk : ((placesL s).map placeV)[k]? = some [.sl 1 (intsA .i64 p)] := by simp [hp, placeV]
    have c2 := ints_a p d
    rw [findL_at hp] at hE
    cases hb : intsP p d <;> rw [hb] at c2 hE
    · refine walk2 ?_
      exact ⟨k + 1, by omega, ⟨by omega, hE⟩, wkR hC.m []⟩
    · simp only [if_true] at hE
      rw [hE]
      refine walk2 ?_
      exact fin
  · rw [List.drop_eq_nil_of_le (by omega), findL] at hE
    rw [hE]
    refine walk2 ?_
    exact fin
end Go.Proofs.Ytfnilbkahkbljaa
