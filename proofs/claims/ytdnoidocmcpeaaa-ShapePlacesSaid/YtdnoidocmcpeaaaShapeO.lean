/- Walks: the laws ShapePlaces, ShapeWhole. -/
import Derived.Test.YtdnoidocmcpeaaaShapeN
namespace Go.Proofs.Ytdnoidocmcpeaaa
set_option linter.unusedVariables false
open Go.RowKit

/-- a callee of which only is known what it hands back, and that nothing that was there has turned -/
theorem below_step {w w1 w2 : World} (h1 : Below w.heap.size w w1) (h2 : Below w1.heap.size w1 w2) : Below w.heap.size w w2 := h1.trans (h2.mono h1.size)

theorem digR_nPl {s : List Int} {n : Int} (h : (cnt s).2 = 0 ∧ 0 ≤ n ∧ n < (cnt s).1) : n.toNat < nPl s := by
  unfold nPl
  rw [if_pos h.1]; omega

set_option maxHeartbeats 4000000 in
theorem walkShapePlaces (a : Option Addr) (len cap : Nat) (zs : List Int) (a2 : Option Addr) (len2 cap2 : Nat) (ys : List Int) (n : Int) (w : World) (hl : zs.length = len) (h : RdI w .i64 a zs) (hl2 : ys.length = len2) (h2 : RdI w .i64 a2 ys) (hn : (Lit.int .i64 n).wf = true) :
    Calls Try.prog 4 #[.slice a len cap, .slice a2 len2 cap2, .int .i64 n] w fun e w' => e = .returned (.bool true) ∧ Below w.heap.size w w' := by
  obtain ⟨k, ok, hk⟩ : ∃ k ok, idx zs ys = (k, ok) := ⟨_, _, rfl⟩
  have C1 : Hid (Calls Try.prog 15 #[.slice a len cap, .slice a2 len2 cap2] w fun e w' => e = .returned (.tuple #[.int .i64 k, .bool ok]) ∧ w = w') := by
    have := indexS_c a len cap zs a2 len2 cap2 ys w hl h hl2 h2
    rw [hk] at this; exact this
  have C2 : Hid (Calls Try.prog 16 #[.slice a len cap, .slice a2 len2 cap2] w fun e w' => e = .returned (.int .i64 (if ok then k else -1)) ∧ Below w.heap.size w w') := by
    have := rindex_c a len cap zs a2 len2 cap2 ys w hl h hl2 h2
    rw [ridx_eq, hk] at this; exact this
  obtain ⟨hk0, hk1, hk2⟩ := idx_ge zs ys
  rw [hk] at hk0 hk1 hk2
  have hk0' : 0 ≤ k := hk0
  have hk1' : k ≤ 2048 := hk1
  have hk2' : ok = false → k = 0 := hk2
  have HL := Lib.hid hl
  have H := Lib.hid h
  have HN := nPl_le zs
  by_cases hin : (cnt zs).2 = 0 ∧ 0 ≤ n ∧ n < (cnt zs).1
  · have C3 : Hid (∀ w1, Below w.heap.size w w1 → Calls Try.prog 17 #[.slice a len cap, .int .i64 n] w1 fun e w' => e = .returned (.tuple #[.slice (some ⟨w1.heap.size, 0, none⟩) len len, .bool true]) ∧ NewI w1 (some ⟨w1.heap.size, 0, none⟩) len (digR zs n).2 w') := fun w1 hb => at_yes a len cap zs n w1 HL.out (H.out.below hb (Nat.le_refl _)) hin.1 hin.2.1 hin.2.2
    have C4 : Hid (∀ w1, Below w.heap.size w w1 → Calls Try.prog 18 #[.slice a len cap] w1 (RetPlaces w1 len (nPl zs) zs)) := fun w1 hb => places_any a len cap zs w1 HL.out (H.out.below hb (Nat.le_refl _))
    have hnn : n.toNat < nPl zs := digR_nPl hin
    have HPK : Hid ((placesP zs (nPl zs))[n.toNat]? = some (digR zs n).2) := by
      rw [Hid]; simp only [placesP, List.getElem?_map, List.getElem?_range hnn, Option.map_some, Int.toNat_of_nonneg hin.2.1]
    have hn0 : 0 ≤ n := hin.2.1
    obtain ⟨m, hm⟩ : ∃ m, nPl zs = m := ⟨_, rfl⟩
    obtain ⟨j, rfl⟩ : ∃ j : Nat, n = j := ⟨n.toNat, by omega⟩
    rw [hm] at hnn HN C4 HPK
    have hjm : j < m := by omega
    have hjm2 : (j : Int) < (m : Int) := by omega
    have hjs : ((j : Int)).toNat = j := by omega
    rw [hjs] at HPK
    clear hk hl h hl2 h2 hn hin hm hk0 hk1 hk2 hnn hn0 hjs
    cases ok
    case' false => obtain rfl := hk2' rfl
    all_goals
      clear hk2'
      go_enter Try.func4, Try.ntmps4
      go_wp2_with (first
        | (go_at_call 15
           refine C1.out.mono ?_
           rintro e w' ⟨rfl, rfl⟩)
        | (go_at_call 16
           refine C2.out.mono ?_
           rintro e w1 ⟨rfl, hb1⟩
           have HB1 := Lib.hid hb1
           clear hb1)
        | (go_at_call 17
           refine (C3.out _ HB1.out).mono ?_
           rintro e w2 ⟨rfl, hnew⟩
           have HA := Lib.hid hnew
           have HB2 : Hid (Below w.heap.size w w2) := below_step HB1.out HA.out.2
           clear hnew)
        | (go_at_call 18
           refine (C4.out _ HB2.out).mono ?_
           rintro e w3 ⟨oa, oc, vs, rfl, hown, hrows, hb3⟩
           have HB3 : Hid (Below w.heap.size w w3) := below_step HB2.out hb3
           have HA3 : Hid (SlI w3 .i64 (some ⟨w1.heap.size, 0, none⟩) len len (digR zs j).2) := by
             have h1 := HA.out.1
             have e1 : (digR zs j).2.length = len := by rw [digR_len]; exact HL.out
             rw [e1] at h1
             have hle := H.out.le
             have hll := HL.out
             exact Sl.below (sl_own h1 (by simp; omega) (oneI _ _)) hb3 (Nat.le_refl _)
           obtain ⟨b, c, hv, hS, hap, hblt⟩ := hrows.2 j _ HPK.out
           obtain ⟨g, rfl⟩ : ∃ g, oa = some ⟨g, 0, none⟩ := by
             rcases hown.2 with ⟨h1, h2⟩ | ⟨g, c, cur, h1, _⟩
             · omega
             · simp only [Value.slice.injEq] at h1; exact ⟨g, h1.1⟩
           have hc1 : w3.cell? ⟨g, j, none⟩ = some (.slice b len c) := by rw [hown.cellAt j (by omega)]; exact hv
           have HSS := Lib.hid hS
           clear hown hrows hb3 hv hS hap hblt)
        | (go_at_call 19
           refine (rints_c _ len len (digR zs j).2 b len c (digR zs j).2 _ HA3.out.len HA3.out.rdI HSS.out.len HSS.out.rdI).mono ?_
           rintro e w4 ⟨he, nq, rfl⟩
           have hpp : intsP (digR zs j).2 (digR zs j).2 = true := by simp [intsP]
           rw [hpp] at he
           subst he
           clear hpp)
        | (go_at_call 14
           refine (awake07_c _).mono ?_
           rintro e w5 ⟨rfl, hb5⟩
           have HB5 := Lib.hid hb5
           clear hb5))
      go_ret
      exact ⟨rfl, below_step (below_drewN HB3.out _) HB5.out⟩
  · have C3 : Hid (∀ w1, Below w.heap.size w w1 → Calls Try.prog 17 #[.slice a len cap, .int .i64 n] w1 fun e w' => e = .returned (.tuple #[.slice none 0 0, .bool false]) ∧ w1 = w') := fun w1 hb => at_no a len cap zs n w1 HL.out (H.out.below hb (Nat.le_refl _)) (by
      by_cases hc : (cnt zs).2 = 0
      · by_cases h0 : n < 0
        · exact .inr (.inl h0)
        · exact .inr (.inr (by
            by_cases h1 : n < (cnt zs).1
            · exact absurd ⟨hc, by omega, h1⟩ hin
            · omega))
      · exact .inl hc)
    have C4 : Hid (∀ w1, Below w.heap.size w w1 → Calls Try.prog 18 #[.slice a len cap] w1 (RetPlaces w1 len (nPl zs) zs)) := fun w1 hb => places_any a len cap zs w1 HL.out (H.out.below hb (Nat.le_refl _))
    have hnn : n < 0 ∨ ((nPl zs : Nat) : Int) ≤ n := by
      unfold nPl
      by_cases hc : (cnt zs).2 = 0
      · rw [if_pos hc]
        by_cases h0 : n < 0
        · exact .inl h0
        · by_cases h1 : n < (cnt zs).1
          · exact absurd ⟨hc, by omega, h1⟩ hin
          · have := (cnt_le zs).1; omega
      · rw [if_neg hc]; omega
    obtain ⟨m, hm⟩ : ∃ m, nPl zs = m := ⟨_, rfl⟩
    rw [hm] at hnn HN C4
    clear hk hl h hl2 h2 hn hin hm hk0 hk1 hk2
    rcases hnn with hn0 | hnm
    all_goals
      first
        | (have hd : decide (0 ≤ n) = false := (by simp; omega))
        | (rcases Decidable.em (n < 0) with hn0 | hn0)
    all_goals
      try (have hd : decide (0 ≤ n) = false := (by simp; omega))
    all_goals
      cases ok
      case' false => obtain rfl := hk2' rfl
    all_goals
      clear hk2'
      go_enter Try.func4, Try.ntmps4
      go_wp2_with (first
        | (go_at_call 15
           refine C1.out.mono ?_
           rintro e w' ⟨rfl, rfl⟩)
        | (go_at_call 16
           refine C2.out.mono ?_
           rintro e w1 ⟨rfl, hb1⟩
           have HB1 := Lib.hid hb1
           clear hb1)
        | (go_at_call 17
           refine (C3.out _ HB1.out).mono ?_
           rintro e w2 ⟨rfl, rfl⟩)
        | (go_at_call 18
           refine (C4.out _ HB1.out).mono ?_
           rintro e w3 ⟨oa, oc, vs, rfl, hown, hrows, hb3⟩
           have HB3 : Hid (Below w.heap.size w w3) := below_step HB1.out hb3
           clear hown hrows hb3)
        | (go_at_call 14
           refine (awake07_c _).mono ?_
           rintro e w5 ⟨rfl, hb5⟩
           have HB5 := Lib.hid hb5
           clear hb5))
      go_ret
      exact ⟨rfl, below_step HB3.out HB5.out⟩

end Go.Proofs.Ytdnoidocmcpeaaa
