/- Walks: the chapter's example; the law ShapeCounts. -/
import Derived.Test.YtdnoidocmcpeaaaShapeC
namespace Go.Proofs.Ytdnoidocmcpeaaa
set_option linter.unusedVariables false
open Go.RowKit

set_option maxHeartbeats 200000 in
theorem awake07_c (w : World) :
    Calls Try.prog 14 #[] w fun e w' => e = .returned (.bool true) ∧ Below w.heap.size w w' := by
  have C1 : Hid (∀ b w, RdI w .i64 (some ⟨b, 0, none⟩) [2, 3] → Calls Try.prog 12 #[.slice (some ⟨b, 0, none⟩) 2 2] w fun e w' => e = .returned (.tuple #[.int .i64 6, .int .i64 0]) ∧ w = w') := fun b w h => by
    have e : cnt [2, 3] = (6, 0) := by decide
    have := count_c (some ⟨b, 0, none⟩) 2 2 [2, 3] w rfl h
    rw [e] at this; exact this
  have C2 : Hid (∀ b b2 w, RdI w .i64 (some ⟨b, 0, none⟩) [2, 3] → RdI w .i64 (some ⟨b2, 0, none⟩) [1, 0] → Calls Try.prog 15 #[.slice (some ⟨b, 0, none⟩) 2 2, .slice (some ⟨b2, 0, none⟩) 2 2] w fun e w' => e = .returned (.tuple #[.int .i64 3, .bool true]) ∧ w = w') := fun b b2 w h h2 => by
    have e : idx [2, 3] [1, 0] = (3, true) := by decide
    have := indexS_c (some ⟨b, 0, none⟩) 2 2 [2, 3] (some ⟨b2, 0, none⟩) 2 2 [1, 0] w rfl h rfl h2
    rw [e] at this; exact this
  go_enter Try.func14, Try.ntmps14
  go_wp2_with fail
  (with_reducible refine (C1.out _ _ ?_).mono ?_)
  · exact RdI.lit [2, 3] (heap_alloc_new w _) rfl (by decide)
  rintro e w' ⟨rfl, rfl⟩
  go_wp2_with fail
  (with_reducible refine (C2.out _ _ _ ?_ ?_).mono ?_)
  · exact RdI.lit (cs := #[.int .i64 2, .int .i64 3]) (t := 3) (fr := (0, 0)) [2, 3] (by simp only [World.alloc, Array.getElem?_push, Array.size_push]; repeat (first | rfl | rw [if_pos (by omega)] | rw [if_neg (by omega)])) rfl (by decide)
  · exact RdI.lit (cs := #[.int .i64 1, .int .i64 0]) (t := 3) (fr := (0, 0)) [1, 0] (by simp only [World.alloc, Array.getElem?_push, Array.size_push]; repeat (first | rfl | rw [if_pos (by omega)] | rw [if_neg (by omega)])) rfl (by decide)
  rintro e w' ⟨rfl, rfl⟩
  go_wp2
  go_ret
  exact ⟨rfl, by go_grown⟩

set_option maxHeartbeats 200000 in
theorem walkShapeCounts (a : Option Addr) (len cap : Nat) (zs : List Int) (w : World) (hl : zs.length = len) (h : RdI w .i64 a zs) :
    Calls Try.prog 3 #[.slice a len cap] w fun e w' => e = .returned (.bool true) ∧ Below w.heap.size w w' := by
  have C1 : Hid (∀ x y, cnt zs = (x, y) → Calls Try.prog 12 #[.slice a len cap] w fun e w' => e = .returned (.tuple #[.int .i64 x, .int .i64 y]) ∧ w = w') := fun x y hx => by
    have := count_c a len cap zs w hl h
    rw [hx] at this; exact this
  have C2 : Hid (∀ x y, cnt zs = (x, y) → Calls Try.prog 13 #[.slice a len cap] w fun e w' => e = .returned (.tuple #[.int .i64 x, .int .i64 y]) ∧ w = w') := fun x y hx => by
    have := rcount_c a len cap zs w hl h
    rw [rcnt_eq, hx] at this; exact this
  obtain ⟨x, y, hx⟩ : ∃ x y, cnt zs = (x, y) := ⟨(cnt zs).1, (cnt zs).2, rfl⟩
  have HX := Lib.hid hx
  clear hl h hx
  go_enter Try.func3, Try.ntmps3
  go_wp2_with (first | ((with_reducible refine (C1.out _ _ HX.out).mono ?_); rintro e w' ⟨rfl, rfl⟩) | ((with_reducible refine (C2.out _ _ HX.out).mono ?_); rintro e w' ⟨rfl, rfl⟩) | ((with_reducible refine (awake07_c _).mono ?_); rintro e w' ⟨rfl, hb⟩))
  go_ret
  exact ⟨rfl, hb⟩

end Go.Proofs.Ytdnoidocmcpeaaa
