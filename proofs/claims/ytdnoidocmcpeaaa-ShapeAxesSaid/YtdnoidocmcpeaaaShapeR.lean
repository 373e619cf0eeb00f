/- Walks: the law ShapeAxes. -/
import Derived.Test.YtdnoidocmcpeaaaShapeO
import Derived.Test.YtdnoidocmcpeaaaShapeH
namespace Go.Proofs.Ytdnoidocmcpeaaa
set_option linter.unusedVariables false
open Go.RowKit

theorem Sl.drewN {w : World} {a : Option Addr} {len cap sz : Nat} {cs : List Value} (h : Sl w a len cap sz cs) (q : Nat) : Sl (w.drewN q) a len cap sz cs := h.below (below_drewN (Below.refl w.heap.size w) q) (Nat.le_refl _)

theorem SlI.drewN {w : World} {k : IntKind} {a : Option Addr} {len cap : Nat} {zs : List Int} (h : SlI w k a len cap zs) (q : Nat) : SlI (w.drewN q) k a len cap zs := Sl.drewN h q

theorem prodC_zero {l : List Int} (h : (0 : Int) ∈ l) : ∀ o, prodC l o = 0 := by
  induction l with
  | nil => simp at h
  | cons z l ih =>
    intro o
    simp only [prodC]
    split
    · rfl
    · rcases List.mem_cons.1 h with h | h
      · subst h
        rw [Int.mul_zero]
        have : ∀ l : List Int, prodC l 0 = 0 := fun l => by
          induction l with
          | nil => rfl
          | cons y l ih => simp only [prodC, Int.zero_mul]; rw [if_neg (by omega)]; exact ih
        exact this l
      · exact ih h _

theorem cnt_prodC {s : List Int} (hs : Small s) (hl : s.length ≤ 6) : (cnt s).1 = prodC s 1 := by
  unfold cnt
  have h1 : s.any (fun n => decide (n < 0)) = false := by
    simp only [List.any_eq_false]; intro z hz; have := hs z hz; simp; omega
  have h2 : s.any (fun n => decide (n > 2048)) = false := by
    simp only [List.any_eq_false]; intro z hz; have := hs z hz; simp; omega
  rw [if_neg (by omega), if_neg (by rw [h1]; simp), if_neg (by rw [h2]; simp)]
  by_cases h3 : s.any (fun z => (0 : Int) == z) = true
  · rw [if_pos h3]
    obtain ⟨z, hz, e⟩ := List.any_eq_true.1 h3
    have : (0 : Int) = z := by simpa using e
    subst this
    exact (prodC_zero hz 1).symm
  · rw [if_neg h3]
    by_cases h4 : prodC s 1 = 0
    · rw [if_pos h4, h4]
    · rw [if_neg h4]

/-- ahead of an axis, along it, behind it: all -/
theorem around_all {s : List Int} {k : Nat} {z : Int} (hc : (cnt s).2 = 0) (hz : s[k]? = some z) (h0 : (cnt s).1 ≠ 0) : prodC (s.take k) 1 * z * prodC (s.drop (k + 1)) 1 = (cnt s).1 := by
  have hle := cnt_le s
  have hpos := cnt_pos hc (by omega)
  have hp := cnt_prod hc
  have e : s = s.take k ++ (z :: s.drop (k + 1)) := by rw [← dropA_cons hz, List.take_append_drop]
  have hp2 : prodL s = prodL (s.take k) * (z * prodL (s.drop (k + 1))) := by
    conv => lhs; rw [e, prodL_append]
    rfl
  have pt : ∀ y ∈ s.take k, 0 < y := fun y hy => hpos y (List.mem_of_mem_take hy)
  have pd : ∀ y ∈ s.drop (k + 1), 0 < y := fun y hy => hpos y (List.mem_of_mem_drop hy)
  have h1 := prodL_pos _ pt
  have h2 := prodL_pos _ pd
  have hz0 := hpos z (List.mem_of_getElem? hz)
  have key : ∀ (l : List Int) (o : Int), 0 < o → (∀ y ∈ l, 0 < y) → o * prodL l ≤ 2048 → prodC l o = o * prodL l := by
    intro l
    induction l with
    | nil => intro o _ _ _; simp [prodC, prodL]
    | cons y l ih =>
      intro o ho hy hb
      have hy0 := hy y (by simp)
      have hl0 := prodL_pos l (fun x hx => hy x (by simp [hx]))
      simp only [prodC, prodL] at hb ⊢
      have hoy := Int.mul_pos ho hy0
      rw [← Int.mul_assoc] at hb ⊢
      have : o * y ≤ o * y * prodL l := by
        have := Int.mul_le_mul_of_nonneg_left (show (1 : Int) ≤ prodL l by omega) (Int.le_of_lt hoy)
        rwa [Int.mul_one] at this
      rw [if_neg (by omega)]
      exact ih _ hoy (fun x hx => hy x (by simp [hx])) hb
  have b1 : prodL (s.take k) ≤ prodL s := by
    rw [hp2]
    have := Int.mul_le_mul_of_nonneg_left (show (1 : Int) ≤ z * prodL (s.drop (k + 1)) by have := Int.mul_pos hz0 h2; omega) (Int.le_of_lt h1)
    rwa [Int.mul_one] at this
  have b2 : prodL (s.drop (k + 1)) ≤ prodL s := by
    rw [hp2]
    have a := Int.mul_le_mul_of_nonneg_right (show (1 : Int) ≤ z by omega) (Int.le_of_lt h2)
    rw [Int.one_mul] at a
    have b := Int.mul_le_mul_of_nonneg_right (show (1 : Int) ≤ prodL (s.take k) by omega) (Int.le_of_lt (Int.mul_pos hz0 h2))
    rw [Int.one_mul] at b
    omega
  rw [key _ 1 (by omega) pt (by omega), key _ 1 (by omega) pd (by omega), hp, hp2, Int.one_mul, Int.one_mul, Int.mul_assoc]

theorem prodC_bd {s : List Int} (hs : Small s) : 0 ≤ prodC s 1 ∧ prodC s 1 ≤ 2048 := prodC_range s 1 (by omega) (by omega) hs

set_option maxHeartbeats 8000000 in
theorem walkShapeAxes (a : Option Addr) (len cap : Nat) (zs : List Int) (ax n : Int) (w : World) (hS : SlI w .i64 a len cap zs) (hax : (Lit.int .i64 ax).wf = true) (hn : (Lit.int .i64 n).wf = true) :
    Calls Try.prog 6 #[.slice a len cap, .int .i64 ax, .int .i64 n] w fun e w' => e = .returned (.bool true) ∧ Below w.heap.size w w' := by
  by_cases hbig : 20 < len
  · have hb2 : (20 : Int) < (len : Int) := by omega
    clear hS hax hn
    go_enter Try.func6, Try.ntmps6
    go_wp2_with ((with_reducible refine (awake07_c _).mono ?_); rintro e w5 ⟨rfl, hb5⟩)
    go_ret
    exact ⟨rfl, hb5⟩
  have hlen : len ≤ 20 := by omega
  have HL := Lib.hid hS.len
  have H := Lib.hid hS
  have CA : Hid (∀ w1, Below w.heap.size w w1 → Calls Try.prog 14 #[] w1 fun e w' => e = .returned (.bool true) ∧ Below w.heap.size w w') := fun w1 hb => (awake07_c w1).mono fun e w' ⟨he, hb'⟩ => ⟨he, below_step hb hb'⟩
  obtain ⟨x, y, hx⟩ : ∃ x y, cnt zs = (x, y) := ⟨(cnt zs).1, (cnt zs).2, rfl⟩
  have CC : Hid (∀ w1, Below w.heap.size w w1 → Calls Try.prog 12 #[.slice a len cap] w1 fun e w' => e = .returned (.tuple #[.int .i64 x, .int .i64 y]) ∧ w1 = w') := fun w1 hb => by
    have := count_c a len cap zs w1 HL.out (H.out.below hb (Nat.le_refl _)).rdI
    rw [hx] at this; exact this
  by_cases hin : 0 ≤ ax ∧ ax < len
  · obtain ⟨j, rfl⟩ : ∃ j : Nat, ax = j := ⟨ax.toNat, by omega⟩
    have hjl : j < len := by omega
    have CI1 : Hid (∀ w1 (b1 b2 : Option Addr) (c1 c2 l : Nat) (L : List Int), SlI w1 .i64 b1 l c1 L → SlI w1 .i64 b2 l c2 L → Calls Try.prog 19 #[.slice b1 l c1, .slice b2 l c2] w1 fun e w' => e = .returned (.bool true) ∧ ∃ q, w' = w1.drewN q) := fun w1 b1 b2 c1 c2 l L h1 h2 => by
      have := rints_c b1 l c1 L b2 l c2 L w1 h1.len h1.rdI h2.len h2.rdI
      rw [show intsP L L = true by simp [intsP]] at this; exact this
    have CW1 : Hid (∀ w1, Below w.heap.size w w1 → Calls Try.prog 22 #[.slice a len cap, .int .i64 j, .int .i64 n] w1 fun e w' => ∃ a' c', e = .returned (.tuple #[.slice a' len c', .bool true]) ∧ SlI w' .i64 a' len c' (zs.set j n) ∧ Below w1.heap.size w1 w') := fun w1 hb =>
      (with_yes a len cap zs j n w1 (H.out.below hb (Nat.le_refl _)) hjl (by omega)).mono fun e w' ⟨a', c', he, hnew⟩ => ⟨a', c', he, by
        have h1 := hnew.1
        rw [List.length_set, HL.out] at h1
        exact sl_own h1 (by have := HL.out; simp; omega) (oneI _ _), hnew.2⟩
    have CW2 : Hid (∀ w1, Below w.heap.size w w1 → Calls Try.prog 23 #[.slice a len cap, .int .i64 j, .int .i64 n] w1 fun e w' => ∃ a' c', e = .returned (.tuple #[.slice a' len c', .bool true]) ∧ SlI w' .i64 a' len c' (zs.set j n) ∧ Below w1.heap.size w1 w') := fun w1 hb =>
      (rwith_yes a len cap zs j n w1 (H.out.below hb (Nat.le_refl _)) hjl (by omega)).mono fun e w' ⟨a', c', he, hnew⟩ => ⟨a', c', he, by
        have h1 := hnew.1
        rw [List.length_set, HL.out] at h1
        exact sl_own h1 (by have := HL.out; simp; omega) (oneI _ _), hnew.2⟩
    have CO1 : Hid (∀ w1, Below w.heap.size w w1 → Calls Try.prog 24 #[.slice a len cap, .int .i64 j] w1 fun e w' => ∃ a' c', e = .returned (.tuple #[.slice a' (len - 1) c', .bool true]) ∧ SlI w' .i64 a' (len - 1) c' (zs.eraseIdx j) ∧ Below w1.heap.size w1 w') := fun w1 hb =>
      (without_yes a len cap zs j w1 (H.out.below hb (Nat.le_refl _)) hjl (by omega)).mono fun e w' ⟨a', c', he, hnew⟩ => ⟨a', c', he, by
        have h1 := hnew.1
        rw [List.length_eraseIdx_of_lt (by rw [HL.out]; exact hjl), HL.out] at h1
        exact sl_own h1 (by rw [List.length_map, List.length_eraseIdx_of_lt (by rw [HL.out]; exact hjl), HL.out]; omega) (oneI _ _), hnew.2⟩
    have CO2 : Hid (∀ w1, Below w.heap.size w w1 → Calls Try.prog 25 #[.slice a len cap, .int .i64 j] w1 fun e w' => ∃ a' c', e = .returned (.tuple #[.slice a' (len - 1) c', .bool true]) ∧ SlI w' .i64 a' (len - 1) c' (zs.eraseIdx j) ∧ Below w1.heap.size w1 w') := fun w1 hb =>
      (rwithout_yes a len cap zs j w1 (H.out.below hb (Nat.le_refl _)) hjl (by omega)).mono fun e w' ⟨a', c', he, hnew⟩ => ⟨a', c', he, by
        have h1 := hnew.1
        rw [List.length_eraseIdx_of_lt (by rw [HL.out]; exact hjl), HL.out] at h1
        exact sl_own h1 (by rw [List.length_map, List.length_eraseIdx_of_lt (by rw [HL.out]; exact hjl), HL.out]; omega) (oneI _ _), hnew.2⟩
    obtain ⟨z, hz⟩ : ∃ z, zs[j]? = some z := ⟨zs[j]'(by rw [HL.out]; exact hjl), by simp⟩
    by_cases hy : y = 0
    · subst hy
      have hc : (cnt zs).2 = 0 := by rw [hx]
      have CR1 : Hid (Calls Try.prog 20 #[.slice a len cap, .int .i64 j] w fun e w' => e = .returned (.tuple #[.int .i64 (prodC (zs.take j) 1), .int .i64 z, .int .i64 (prodC (zs.drop (j + 1)) 1), .bool true]) ∧ ∃ q, w' = w.drewN q) := around_yes a len cap zs j z w H.out hc hjl hz
      have CR2 : Hid (∀ q, Calls Try.prog 21 #[.slice a len cap, .int .i64 j] (w.drewN q) fun e w' => e = .returned (.tuple #[.int .i64 (prodC (zs.take j) 1), .int .i64 z, .int .i64 (prodC (zs.drop (j + 1)) 1), .bool true]) ∧ Below w.heap.size w w') := fun q => by
        have hsm := cnt_small hc
        have hl6 := cnt_len hc
        have := raround_yes a len cap zs j z (w.drewN q) (Sl.drewN H.out q) hc hjl hz
        rw [cnt_prodC (small_take hsm j) (by simp; omega), cnt_prodC (small_drop hsm (j + 1)) (by simp; omega)] at this
        exact this.mono fun e w' ⟨he, m, hw⟩ => ⟨he, by rw [hw]; exact below_drewN (below_drewN (Below.refl _ _) _) _⟩
      have hall : x = 0 ∨ prodC (zs.take j) 1 * z * prodC (zs.drop (j + 1)) 1 = x := by
        by_cases h0 : x = 0
        · exact .inl h0
        · have := around_all hc hz (by rw [hx]; exact h0)
          rw [hx] at this; exact .inr this
      have hp1 := prodC_bd (small_take (cnt_small hc) j)
      have hp2 := prodC_bd (small_drop (cnt_small hc) (j + 1))
      have hz2 := cnt_small hc z (List.mem_of_getElem? hz)
      obtain ⟨p1, hp1e⟩ : ∃ p1, prodC (zs.take j) 1 = p1 := ⟨_, rfl⟩
      obtain ⟨p2, hp2e⟩ : ∃ p2, prodC (zs.drop (j + 1)) 1 = p2 := ⟨_, rfl⟩
      rw [hp1e] at CR1 CR2 hall hp1
      rw [hp2e] at CR1 CR2 hall hp2
      obtain ⟨hp10, hp11⟩ := hp1
      obtain ⟨hp20, hp21⟩ := hp2
      obtain ⟨hz0, hz1⟩ := hz2
      have hm1 : 0 ≤ p1 * z := Int.mul_nonneg hp10 hz0
      have hm2 : p1 * z ≤ 2048 * 2048 := Int.mul_le_mul hp11 hz1 hz0 (by omega)
      have hm3 : 0 ≤ p1 * z * p2 := Int.mul_nonneg hm1 hp20
      have hm4 : p1 * z * p2 ≤ 2048 * 2048 * 2048 := Int.mul_le_mul hm2 hp21 hp20 (by omega)
      have hb1 : (p1 * z * p2 == x) = true ∨ ((p1 * z * p2 == x) = false ∧ x = 0) := by
        cases h : (p1 * z * p2 == x)
        · right
          refine ⟨rfl, ?_⟩
          rcases hall with h0 | h1
          · exact h0
          · rw [h1] at h; simp at h
        · left; rfl
      clear hp1e hp2e hall hS hax hn hx hc hz hin hbig
      rcases hb1 with hb1 | ⟨hb1, rfl⟩
      all_goals
        go_enter Try.func6, Try.ntmps6
        go_wp2_with (first
          | (go_at_call 20
             refine CR1.out.mono ?_
             rintro e w' ⟨rfl, q1, rfl⟩)
          | (go_at_call 21
             refine (CR2.out q1).mono ?_
             rintro e w1 ⟨rfl, hb1⟩
             have HB1 := Lib.hid hb1
             clear hb1)
          | (go_at_call 22
             refine (CW1.out _ HB1.out).mono ?_
             rintro e w2 ⟨a2, c2, rfl, hs2, hb2⟩
             have HB2 : Hid (Below w.heap.size w w2) := below_step HB1.out hb2
             have S2 := Lib.hid hs2
             clear hs2 hb2)
          | (go_at_call 23
             refine (CW2.out _ HB2.out).mono ?_
             rintro e w3 ⟨a3, c3, rfl, hs3, hb3⟩
             have HB3 : Hid (Below w.heap.size w w3) := below_step HB2.out hb3
             have S3 : Hid (SlI w3 .i64 a2 len c2 (zs.set j n) ∧ SlI w3 .i64 a3 len c3 (zs.set j n)) := ⟨SlI.below S2.out hb3 (Nat.le_refl _), hs3⟩
             clear hs3 hb3)
          | (go_at_call 24
             refine (CO1.out _ HB3.out).mono ?_
             rintro e w4 ⟨a4, c4, rfl, hs4, hb4⟩
             have HB4 : Hid (Below w.heap.size w w4) := below_step HB3.out hb4
             have S4 : Hid ((SlI w4 .i64 a2 len c2 (zs.set j n) ∧ SlI w4 .i64 a3 len c3 (zs.set j n)) ∧ SlI w4 .i64 a4 (len - 1) c4 (zs.eraseIdx j)) := ⟨⟨SlI.below S3.out.1 hb4 (Nat.le_refl _), SlI.below S3.out.2 hb4 (Nat.le_refl _)⟩, hs4⟩
             clear hs4 hb4)
          | (go_at_call 25
             refine (CO2.out _ HB4.out).mono ?_
             rintro e w5 ⟨a5, c5, rfl, hs5, hb5⟩
             have HB5 : Hid (Below w.heap.size w w5) := below_step HB4.out hb5
             have S5 : Hid ((SlI w5 .i64 a2 len c2 (zs.set j n) ∧ SlI w5 .i64 a3 len c3 (zs.set j n)) ∧ (SlI w5 .i64 a4 (len - 1) c4 (zs.eraseIdx j) ∧ SlI w5 .i64 a5 (len - 1) c5 (zs.eraseIdx j))) := ⟨⟨SlI.below S4.out.1.1 hb5 (Nat.le_refl _), SlI.below S4.out.1.2 hb5 (Nat.le_refl _)⟩, SlI.below S4.out.2 hb5 (Nat.le_refl _), hs5⟩
             clear hs5 hb5)
          | (go_at_call 19
             (with_reducible refine (CI1.out w5 _ _ _ _ _ _ S5.out.1.1 S5.out.1.2).mono ?_)
             rintro e w' ⟨rfl, q5, rfl⟩)
          | (go_at_call 19
             (with_reducible refine (CI1.out (w5.drewN q5) _ _ _ _ _ _ (SlI.drewN S5.out.2.1 q5) (SlI.drewN S5.out.2.2 q5)).mono ?_)
             rintro e w' ⟨rfl, q6, rfl⟩)
          | (go_at_call 12
             refine (CC.out _ (below_drewN HB5.out _)).mono ?_
             rintro e w' ⟨rfl, rfl⟩)
          | (go_at_call 14
             refine (CA.out _ (below_drewN HB5.out _)).mono ?_
             rintro e w7 ⟨rfl, hb7⟩
             have HB7 := Lib.hid hb7
             clear hb7))
        go_ret
        exact ⟨rfl, HB7.out⟩
    · have hy1 : (y == 0) = false := by simpa using hy
      have CR1 : Hid (Calls Try.prog 20 #[.slice a len cap, .int .i64 j] w fun e w' => e = .returned (.tuple #[.int .i64 0, .int .i64 0, .int .i64 0, .bool false]) ∧ ∃ q, w' = w.drewN q) :=
        (around_no a len cap zs j w H.out (.inl (by rw [hx]; exact hy))).mono fun e w' ⟨he, hw⟩ => ⟨he, 0, hw.symm⟩
      have CR2 : Hid (∀ q, Calls Try.prog 21 #[.slice a len cap, .int .i64 j] (w.drewN q) fun e w' => e = .returned (.tuple #[.int .i64 0, .int .i64 0, .int .i64 0, .bool false]) ∧ Below w.heap.size w w') := fun q =>
        (raround_no a len cap zs j (w.drewN q) (Sl.drewN H.out q) (.inl (by rw [hx]; exact hy))).mono fun e w' ⟨he, hw⟩ => ⟨he, by rw [← hw]; exact below_drewN (Below.refl _ _) _⟩
      clear hS hax hn hx hz hin hbig hy
      go_enter Try.func6, Try.ntmps6
      go_wp2_with (first
        | (go_at_call 20
           refine CR1.out.mono ?_
           rintro e w' ⟨rfl, q1, rfl⟩)
        | (go_at_call 21
           refine (CR2.out q1).mono ?_
           rintro e w1 ⟨rfl, hb1⟩
           have HB1 := Lib.hid hb1
           clear hb1)
        | (go_at_call 22
           refine (CW1.out _ HB1.out).mono ?_
           rintro e w2 ⟨a2, c2, rfl, hs2, hb2⟩
           have HB2 : Hid (Below w.heap.size w w2) := below_step HB1.out hb2
           have S2 := Lib.hid hs2
           clear hs2 hb2)
        | (go_at_call 23
           refine (CW2.out _ HB2.out).mono ?_
           rintro e w3 ⟨a3, c3, rfl, hs3, hb3⟩
           have HB3 : Hid (Below w.heap.size w w3) := below_step HB2.out hb3
           have S3 : Hid (SlI w3 .i64 a2 len c2 (zs.set j n) ∧ SlI w3 .i64 a3 len c3 (zs.set j n)) := ⟨SlI.below S2.out hb3 (Nat.le_refl _), hs3⟩
           clear hs3 hb3)
        | (go_at_call 24
           refine (CO1.out _ HB3.out).mono ?_
           rintro e w4 ⟨a4, c4, rfl, hs4, hb4⟩
           have HB4 : Hid (Below w.heap.size w w4) := below_step HB3.out hb4
           have S4 : Hid ((SlI w4 .i64 a2 len c2 (zs.set j n) ∧ SlI w4 .i64 a3 len c3 (zs.set j n)) ∧ SlI w4 .i64 a4 (len - 1) c4 (zs.eraseIdx j)) := ⟨⟨SlI.below S3.out.1 hb4 (Nat.le_refl _), SlI.below S3.out.2 hb4 (Nat.le_refl _)⟩, hs4⟩
           clear hs4 hb4)
        | (go_at_call 25
           refine (CO2.out _ HB4.out).mono ?_
           rintro e w5 ⟨a5, c5, rfl, hs5, hb5⟩
           have HB5 : Hid (Below w.heap.size w w5) := below_step HB4.out hb5
           have S5 : Hid ((SlI w5 .i64 a2 len c2 (zs.set j n) ∧ SlI w5 .i64 a3 len c3 (zs.set j n)) ∧ (SlI w5 .i64 a4 (len - 1) c4 (zs.eraseIdx j) ∧ SlI w5 .i64 a5 (len - 1) c5 (zs.eraseIdx j))) := ⟨⟨SlI.below S4.out.1.1 hb5 (Nat.le_refl _), SlI.below S4.out.1.2 hb5 (Nat.le_refl _)⟩, SlI.below S4.out.2 hb5 (Nat.le_refl _), hs5⟩
           clear hs5 hb5)
        | (go_at_call 19
           (with_reducible refine (CI1.out w5 _ _ _ _ _ _ S5.out.1.1 S5.out.1.2).mono ?_)
           rintro e w' ⟨rfl, q5, rfl⟩)
        | (go_at_call 19
           (with_reducible refine (CI1.out (w5.drewN q5) _ _ _ _ _ _ (SlI.drewN S5.out.2.1 q5) (SlI.drewN S5.out.2.2 q5)).mono ?_)
           rintro e w' ⟨rfl, q6, rfl⟩)
        | (go_at_call 12
           refine (CC.out _ (below_drewN HB5.out _)).mono ?_
           rintro e w' ⟨rfl, rfl⟩)
        | (go_at_call 14
           refine (CA.out _ (below_drewN HB5.out _)).mono ?_
           rintro e w7 ⟨rfl, hb7⟩
           have HB7 := Lib.hid hb7
           clear hb7))
      go_ret
      exact ⟨rfl, HB7.out⟩
  · have hno : ax < 0 ∨ (len : Int) ≤ ax := by omega
    have CI1 : Hid (∀ w1 (b1 b2 : Option Addr) (c1 c2 l : Nat) (L : List Int), SlI w1 .i64 b1 l c1 L → SlI w1 .i64 b2 l c2 L → Calls Try.prog 19 #[.slice b1 l c1, .slice b2 l c2] w1 fun e w' => e = .returned (.bool true) ∧ ∃ q, w' = w1.drewN q) := fun w1 b1 b2 c1 c2 l L h1 h2 => by
      have := rints_c b1 l c1 L b2 l c2 L w1 h1.len h1.rdI h2.len h2.rdI
      rw [show intsP L L = true by simp [intsP]] at this; exact this
    have nil0 : ∀ w1 : World, SlI w1 .i64 none 0 0 [] := fun w1 => ⟨rfl, fun _ => rfl, Nat.le_refl _, RdI.nil _ _ _, by simp⟩
    have CW1 : Hid (∀ w1, Below w.heap.size w w1 → Calls Try.prog 22 #[.slice a len cap, .int .i64 ax, .int .i64 n] w1 fun e w' => ∃ a' c', e = .returned (.tuple #[.slice a' 0 c', .bool false]) ∧ SlI w' .i64 a' 0 c' [] ∧ Below w1.heap.size w1 w') := fun w1 hb =>
      (with_no a len cap zs ax n w1 hno (by omega)).mono fun e w' ⟨he, hw⟩ => ⟨none, 0, he, nil0 _, hw ▸ Below.refl _ _⟩
    have CW2 : Hid (∀ w1, Below w.heap.size w w1 → Calls Try.prog 23 #[.slice a len cap, .int .i64 ax, .int .i64 n] w1 fun e w' => ∃ a' c', e = .returned (.tuple #[.slice a' 0 c', .bool false]) ∧ SlI w' .i64 a' 0 c' [] ∧ Below w1.heap.size w1 w') := fun w1 hb =>
      (rwith_no a len cap zs ax n w1 hno (by omega)).mono fun e w' ⟨he, hw⟩ => ⟨none, 0, he, nil0 _, hw ▸ Below.refl _ _⟩
    have CO1 : Hid (∀ w1, Below w.heap.size w w1 → Calls Try.prog 24 #[.slice a len cap, .int .i64 ax] w1 fun e w' => ∃ a' c', e = .returned (.tuple #[.slice a' 0 c', .bool false]) ∧ SlI w' .i64 a' 0 c' [] ∧ Below w1.heap.size w1 w') := fun w1 hb =>
      (without_no _ (.inl rfl) a len cap ax w1 hno (by omega)).mono fun e w' ⟨he, hw⟩ => ⟨none, 0, he, nil0 _, hw ▸ Below.refl _ _⟩
    have CO2 : Hid (∀ w1, Below w.heap.size w w1 → Calls Try.prog 25 #[.slice a len cap, .int .i64 ax] w1 fun e w' => ∃ a' c', e = .returned (.tuple #[.slice a' 0 c', .bool false]) ∧ SlI w' .i64 a' 0 c' [] ∧ Below w1.heap.size w1 w') := fun w1 hb =>
      (without_no _ (.inr rfl) a len cap ax w1 hno (by omega)).mono fun e w' ⟨he, hw⟩ => ⟨none, 0, he, nil0 _, hw ▸ Below.refl _ _⟩
    have CR1 : Hid (Calls Try.prog 20 #[.slice a len cap, .int .i64 ax] w fun e w' => e = .returned (.tuple #[.int .i64 0, .int .i64 0, .int .i64 0, .bool false]) ∧ ∃ q, w' = w.drewN q) :=
      (around_no a len cap zs ax w H.out (.inr hno)).mono fun e w' ⟨he, hw⟩ => ⟨he, 0, hw.symm⟩
    have CR2 : Hid (∀ q, Calls Try.prog 21 #[.slice a len cap, .int .i64 ax] (w.drewN q) fun e w' => e = .returned (.tuple #[.int .i64 0, .int .i64 0, .int .i64 0, .bool false]) ∧ Below w.heap.size w w') := fun q =>
      (raround_no a len cap zs ax (w.drewN q) (Sl.drewN H.out q) (.inr hno)).mono fun e w' ⟨he, hw⟩ => ⟨he, by rw [← hw]; exact below_drewN (Below.refl _ _) _⟩
    clear hS hax hn hx hin hbig hno nil0
    · go_enter Try.func6, Try.ntmps6
      go_wp2_with (first
        | (go_at_call 20
           refine CR1.out.mono ?_
           rintro e w' ⟨rfl, q1, rfl⟩)
        | (go_at_call 21
           refine (CR2.out q1).mono ?_
           rintro e w1 ⟨rfl, hb1⟩
           have HB1 := Lib.hid hb1
           clear hb1)
        | (go_at_call 22
           refine (CW1.out _ HB1.out).mono ?_
           rintro e w2 ⟨a2, c2, rfl, hs2, hb2⟩
           have HB2 : Hid (Below w.heap.size w w2) := below_step HB1.out hb2
           have S2 := Lib.hid hs2
           clear hs2 hb2)
        | (go_at_call 23
           refine (CW2.out _ HB2.out).mono ?_
           rintro e w3 ⟨a3, c3, rfl, hs3, hb3⟩
           have HB3 : Hid (Below w.heap.size w w3) := below_step HB2.out hb3
           have S3 : Hid (SlI w3 .i64 a2 0 c2 [] ∧ SlI w3 .i64 a3 0 c3 []) := ⟨SlI.below S2.out hb3 (Nat.le_refl _), hs3⟩
           clear hs3 hb3)
        | (go_at_call 24
           refine (CO1.out _ HB3.out).mono ?_
           rintro e w4 ⟨a4, c4, rfl, hs4, hb4⟩
           have HB4 : Hid (Below w.heap.size w w4) := below_step HB3.out hb4
           have S4 : Hid ((SlI w4 .i64 a2 0 c2 [] ∧ SlI w4 .i64 a3 0 c3 []) ∧ SlI w4 .i64 a4 0 c4 []) := ⟨⟨SlI.below S3.out.1 hb4 (Nat.le_refl _), SlI.below S3.out.2 hb4 (Nat.le_refl _)⟩, hs4⟩
           clear hs4 hb4)
        | (go_at_call 25
           refine (CO2.out _ HB4.out).mono ?_
           rintro e w5 ⟨a5, c5, rfl, hs5, hb5⟩
           have HB5 : Hid (Below w.heap.size w w5) := below_step HB4.out hb5
           have S5 : Hid ((SlI w5 .i64 a2 0 c2 [] ∧ SlI w5 .i64 a3 0 c3 []) ∧ (SlI w5 .i64 a4 0 c4 [] ∧ SlI w5 .i64 a5 0 c5 [])) := ⟨⟨SlI.below S4.out.1.1 hb5 (Nat.le_refl _), SlI.below S4.out.1.2 hb5 (Nat.le_refl _)⟩, SlI.below S4.out.2 hb5 (Nat.le_refl _), hs5⟩
           clear hs5 hb5)
        | (go_at_call 19
           (with_reducible refine (CI1.out w5 _ _ _ _ _ _ S5.out.1.1 S5.out.1.2).mono ?_)
           rintro e w' ⟨rfl, q5, rfl⟩)
        | (go_at_call 19
           (with_reducible refine (CI1.out (w5.drewN q5) _ _ _ _ _ _ (SlI.drewN S5.out.2.1 q5) (SlI.drewN S5.out.2.2 q5)).mono ?_)
           rintro e w' ⟨rfl, q6, rfl⟩)
        | (go_at_call 12
           refine (CC.out _ (below_drewN HB5.out _)).mono ?_
           rintro e w' ⟨rfl, rfl⟩)
        | (go_at_call 14
           refine (CA.out _ (below_drewN HB5.out _)).mono ?_
           rintro e w7 ⟨rfl, hb7⟩
           have HB7 := Lib.hid hb7
           clear hb7))
      go_ret
      exact ⟨rfl, HB7.out⟩

end Go.Proofs.Ytdnoidocmcpeaaa
