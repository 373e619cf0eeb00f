/- Walks: layer 7: the reference's Around. -/
import Derived.Test.YtdnoidocmcpeaaaShapeJ
namespace Go.Proofs.Ytdnoidocmcpeaaa
set_option linter.unusedVariables false
open Go.RowKit

theorem cnt_no {s : List Int} (h : (cnt s).2 ≠ 0) : (cnt s).1 = 0 := by
  unfold cnt at h ⊢
  split
  · rfl
  · split
    · rfl
    · split
      · rfl
      · split
        · rfl
        · split
          · rfl
          · rw [if_neg ‹_›, if_neg ‹_›, if_neg ‹_›, if_neg ‹_›, if_neg ‹_›] at h; exact absurd rfl h

set_option maxHeartbeats 1000000 in
theorem raround_yes (a : Option Addr) (len cap : Nat) (zs : List Int) (ax : Nat) (z : Int) (w : World) (hS : SlI w .i64 a len cap zs) (hc : (cnt zs).2 = 0) (hax : ax < len) (hz : zs[ax]? = some z) :
    Calls Try.prog 21 #[.slice a len cap, .int .i64 ax] w fun e w' => e = .returned (.tuple #[.int .i64 (cnt (zs.take ax)).1, .int .i64 z, .int .i64 (cnt (zs.drop (ax + 1))).1, .bool true]) ∧ ∃ n, w' = w.drewN n := by
  have C : Hid (∀ x y, cnt zs = (x, y) → Calls Try.prog 13 #[.slice a len cap] w fun e w' => e = .returned (.tuple #[.int .i64 x, .int .i64 y]) ∧ w = w') := fun x y hx => by
    have := rcount_c a len cap zs w hS.len hS.rdI
    rw [rcnt_eq, hx] at this; exact this
  have hle : len ≤ 140737488351232 := by have := hS.rdI.le; have := hS.len; omega
  obtain ⟨x, hx⟩ : ∃ x, cnt zs = (x, 0) := ⟨(cnt zs).1, by rw [← hc]⟩
  obtain ⟨b, off, z', rfl, hbb, hz', hcell⟩ := hS.rdI.get (i := ax) (by rw [hS.len]; exact hax)
  obtain rfl : z = z' := by rw [hz] at hz'; exact Option.some.inj hz'
  obtain ⟨a1, hS1, hr1⟩ := part_lo hS ax (by omega)
  obtain ⟨a2, hS2, hr2⟩ := part_hi hS (ax + 1) (by omega) ((ax : Int) + 1) (by omega)
  have P1 : Hid (∀ x y, cnt (zs.take ax) = (x, y) → Calls Try.prog 13 #[.slice a1 ax cap] w fun e w' => e = .returned (.tuple #[.int .i64 x, .int .i64 y]) ∧ w = w') := fun x y hx => by
    have := rcount_c a1 ax cap (zs.take ax) w hS1.len hS1.rdI
    rw [rcnt_eq, hx] at this; exact this
  have P2 : Hid (∀ x y, cnt (zs.drop (ax + 1)) = (x, y) → Calls Try.prog 13 #[.slice a2 (len - (ax + 1)) (cap - (ax + 1))] w fun e w' => e = .returned (.tuple #[.int .i64 x, .int .i64 y]) ∧ w = w') := fun x y hx => by
    have := rcount_c a2 (len - (ax + 1)) (cap - (ax + 1)) (zs.drop (ax + 1)) w hS2.len hS2.rdI
    rw [rcnt_eq, hx] at this; exact this
  have hd : decide ((ax : Int) < 0) = false := by simp
  have hd2 : decide ((len : Int) ≤ (ax : Int)) = false := by simp; omega
  have hk0 : (0 : Int) ≤ (ax : Int) := by omega
  have hk1 : (ax : Int) < (len : Int) := by omega
  have hw1 : IntKind.i64.wrap ((ax : Int) + 1) = (ax : Int) + 1 := IntWalk.i64_in _ (by omega)
  have HX := Lib.hid hx
  obtain ⟨p1, y1, hp1⟩ : ∃ p1 y1, cnt (zs.take ax) = (p1, y1) := ⟨_, _, rfl⟩
  obtain ⟨p2, y2, hp2⟩ : ∃ p2 y2, cnt (zs.drop (ax + 1)) = (p2, y2) := ⟨_, _, rfl⟩
  have HP1 := Lib.hid hp1
  have HP2 := Lib.hid hp2
  have Hn1 : Hid (y1 ≠ 0 → p1 = 0) := fun h => by have := cnt_no (s := zs.take ax) (by rw [hp1]; exact h); rw [hp1] at this; exact this
  have Hn2 : Hid (y2 ≠ 0 → p2 = 0) := fun h => by have := cnt_no (s := zs.drop (ax + 1)) (by rw [hp2]; exact h); rw [hp2] at this; exact this
  rw [hp1, hp2]
  clear hS hx hc hz hz' hS1 hS2 hp1 hp2
  rcases Decidable.em (y1 = 0) with rfl | hy1 <;> rcases Decidable.em (y2 = 0) with rfl | hy2
  all_goals
    try (have h1 := Hn1.out hy1; subst h1; have h1 : (y1 != 0) = true := (by simpa using hy1); clear hy1)
    try (have h2 := Hn2.out hy2; subst h2; have h2 : (y2 != 0) = true := (by simpa using hy2); clear hy2)
    go_enter Try.func21, Try.ntmps21
    go_wp2_with (first | ((with_reducible refine (C.out _ _ HX.out).mono ?_); rintro e w' ⟨rfl, rfl⟩) | ((with_reducible refine (P1.out _ _ HP1.out).mono ?_); rintro e w' ⟨rfl, rfl⟩) | ((with_reducible refine (P2.out _ _ HP2.out).mono ?_); rintro e w' ⟨rfl, rfl⟩))
    go_quiet (fail)
    go_wp2
    exact bodyPost_ret (v := .tuple #[.int .i64 _, .int .i64 z, .int .i64 _, .bool true]) (by simp [results, Try.results21, go_sem]; try rfl) rfl ⟨rfl, _, rfl⟩

end Go.Proofs.Ytdnoidocmcpeaaa
