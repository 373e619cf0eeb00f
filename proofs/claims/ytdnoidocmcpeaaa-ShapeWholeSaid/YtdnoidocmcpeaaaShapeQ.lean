/- Walks: the law ShapeWhole. -/
import Derived.Test.YtdnoidocmcpeaaaShapeO
namespace Go.Proofs.Ytdnoidocmcpeaaa
set_option linter.unusedVariables false
open Go.RowKit

theorem idx_digR {s : List Int} {i : Int} (hc : (cnt s).2 = 0) (h0 : 0 ≤ i) (h1 : i < (cnt s).1) : idx s (digR s i).2 = (i, true) := by
  have hpos := cnt_pos hc (by omega)
  have hp := cnt_prod hc
  unfold idx
  rw [if_neg (by simp [hc, digR_len]), idxC_digR s i 0 hpos, Int.zero_mul, Int.zero_add, Int.emod_eq_of_lt h0 (by omega)]
  rfl

set_option maxHeartbeats 4000000 in
theorem walkShapeWhole (a : Option Addr) (len cap : Nat) (zs : List Int) (w : World) (hl : zs.length = len) (h : RdI w .i64 a zs) :
    Calls Try.prog 5 #[.slice a len cap] w fun e w' => e = .returned (.bool true) ∧ Below w.heap.size w w' := by
  obtain ⟨x, y, hx⟩ : ∃ x y, cnt zs = (x, y) := ⟨(cnt zs).1, (cnt zs).2, rfl⟩
  have C : Hid (Calls Try.prog 12 #[.slice a len cap] w fun e w' => e = .returned (.tuple #[.int .i64 x, .int .i64 y]) ∧ w = w') := by
    have := count_c a len cap zs w hl h
    rw [hx] at this; exact this
  have HL := Lib.hid hl
  have H := Lib.hid h
  by_cases hy : y = 0
  · subst hy
    have hle := cnt_le zs
    rw [hx] at hle
    have hx0 : 0 ≤ x := hle.1
    have hx1 : x ≤ 2048 := hle.2
    obtain ⟨m, rfl⟩ : ∃ m : Nat, x = m := ⟨x.toNat, by omega⟩
    have hm : m ≤ 2048 := by omega
    have hlen : zs.length ≤ 6 := cnt_len (by rw [hx])
    have C3 : Hid (∀ (i : Nat) w1, i < m → Below w.heap.size w w1 → Calls Try.prog 17 #[.slice a len cap, .int .i64 i] w1 fun e w' => e = .returned (.tuple #[.slice (some ⟨w1.heap.size, 0, none⟩) len len, .bool true]) ∧ SlI w' .i64 (some ⟨w1.heap.size, 0, none⟩) len len (digR zs i).2 ∧ Below w.heap.size w w') := fun i w1 hi hb => by
      refine (at_yes a len cap zs i w1 HL.out (H.out.below hb (Nat.le_refl _)) (by rw [hx]) (by omega) (by rw [hx]; show (i : Int) < m; omega)).mono fun e w' ⟨he, hnew⟩ => ⟨he, ?_, below_step hb hnew.2⟩
      have h1 := hnew.1
      have e1 : (digR zs i).2.length = len := by rw [digR_len]; exact hl
      rw [e1] at h1
      exact sl_own h1 (by simp; omega) (oneI _ _)
    have C4 : Hid (∀ w1, Below w.heap.size w w1 → Calls Try.prog 17 #[.slice a len cap, .int .i64 m] w1 fun e w' => e = .returned (.tuple #[.slice none 0 0, .bool false]) ∧ w1 = w') := fun w1 hb => at_no a len cap zs m w1 HL.out (H.out.below hb (Nat.le_refl _)) (.inr (.inr (by rw [hx]; exact Int.le_refl _)))
    have C5 : Hid (∀ (i : Nat) b w1, i < m → Below w.heap.size w w1 → SlI w1 .i64 b len len (digR zs i).2 → Calls Try.prog 15 #[.slice a len cap, .slice b len len] w1 fun e w' => e = .returned (.tuple #[.int .i64 i, .bool true]) ∧ w1 = w') := fun i b w1 hi hb hS => by
      have := indexS_c a len cap zs b len len _ w1 HL.out (H.out.below hb (Nat.le_refl _)) hS.len hS.rdI
      rw [idx_digR (by rw [hx]) (by omega) (by rw [hx]; show (i : Int) < m; omega)] at this; exact this
    clear hl h hx hle hx0 hx1 hlen
    go_enter Try.func5, Try.ntmps5
    go_wp2_with ((with_reducible refine C.out.mono ?_); rintro e w' ⟨rfl, rfl⟩)
    go_loopw [5] (fun i wr => ∃ (k : Nat), k ≤ m ∧ i = .int .i64 k ∧ Hid (Below w.heap.size w wr)) (fun i _ => m - (intOf i).toNat)
    case atStart => exact ⟨0, Nat.zero_le _, rfl, Below.refl _ _⟩
    case round =>
      obtain ⟨k, hk, rfl, hb⟩ := hrel
      by_cases hlt : k < m
      · have hlt2 : (k : Int) < (m : Int) := by omega
        go_wp2_with (first
          | (go_at_call 17
             refine (C3.out k _ hlt hb.out).mono ?_
             rintro e w2 ⟨rfl, hS, hb2⟩
             have HS := Lib.hid hS
             have HB2 := Lib.hid hb2
             clear hS hb2)
          | (go_at_call 15
             refine (C5.out k _ _ hlt HB2.out HS.out).mono ?_
             rintro e w' ⟨rfl, rfl⟩))
        go_roundw
        case rel => exact ⟨k + 1, by omega, by go_num, HB2⟩
        case measure => simp [intOf]; omega
      · obtain rfl : k = m := by omega
        go_wp2_with (first
          | (go_at_call 17
             refine (C4.out _ hb.out).mono ?_
             rintro e w2 ⟨rfl, rfl⟩)
          | (go_at_call 14
             refine (awake07_c _).mono ?_
             rintro e w5 ⟨rfl, hb5⟩
             have HB5 := Lib.hid hb5
             clear hb5))
        go_ret
        exact ⟨rfl, below_step hb.out HB5.out⟩
  · have hy1 : (y == 0) = false := by simpa using hy
    have hy2 : (y != 0) = true := by simpa using hy
    clear hl h hx hy
    go_enter Try.func5, Try.ntmps5
    go_wp2_with (first | ((with_reducible refine C.out.mono ?_); rintro e w' ⟨rfl, rfl⟩) | ((with_reducible refine (awake07_c _).mono ?_); rintro e w5 ⟨rfl, hb5⟩))
    go_ret
    exact ⟨rfl, hb5⟩

end Go.Proofs.Ytdnoidocmcpeaaa
