/- Walks: layer 7: the axes around one. -/
import Derived.Test.YtdnoidocmcpeaaaShapeI
namespace Go.Proofs.Ytdnoidocmcpeaaa
set_option linter.unusedVariables false
open Go.RowKit

/-- around an axis -/
def aroundP (s : List Int) (ax : Int) : Int × Int × Int × Bool :=
  if (cnt s).2 ≠ 0 ∨ ax < 0 ∨ (s.length : Int) ≤ ax then (0, 0, 0, false) else (prodC (s.take ax.toNat) 1, s.getD ax.toNat 0, prodC (s.drop (ax.toNat + 1)) 1, true)

set_option maxHeartbeats 1000000 in
theorem around_no (a : Option Addr) (len cap : Nat) (zs : List Int) (ax : Int) (w : World) (hS : SlI w .i64 a len cap zs) (hno : (cnt zs).2 ≠ 0 ∨ ax < 0 ∨ (len : Int) ≤ ax) :
    Calls Try.prog 20 #[.slice a len cap, .int .i64 ax] w fun e w' => e = .returned (.tuple #[.int .i64 0, .int .i64 0, .int .i64 0, .bool false]) ∧ w = w' := by
  have C : Hid (∀ x y, cnt zs = (x, y) → Calls Try.prog 12 #[.slice a len cap] w fun e w' => e = .returned (.tuple #[.int .i64 x, .int .i64 y]) ∧ w = w') := fun x y hx => by
    have := count_c a len cap zs w hS.len hS.rdI
    rw [hx] at this; exact this
  have hle : len ≤ 140737488351232 := by have := hS.rdI.le; have := hS.len; omega
  obtain ⟨x, y, hx⟩ : ∃ x y, cnt zs = (x, y) := ⟨(cnt zs).1, (cnt zs).2, rfl⟩
  rw [hx] at hno
  have HX := Lib.hid hx
  clear hS hx
  by_cases hy : y = 0
  · subst hy
    have hno' : ax < 0 ∨ (len : Int) ≤ ax := by simpa using hno
    clear hno
    by_cases hn : ax < 0
    · have hd : decide (ax < 0) = true := by simpa using hn
      clear hno'
      go_enter Try.func20, Try.ntmps20
      go_wp2_with (refine (C.out _ _ HX.out).mono ?_; rintro e w' ⟨rfl, rfl⟩)
      refine bodyPost_ret (v := .tuple #[.int .i64 0, .int .i64 0, .int .i64 0, .bool false]) (by simp [results, Try.results20, go_sem]) rfl ⟨rfl, rfl⟩
    · have hd : decide (ax < 0) = false := by simpa using hn
      have hxn : (len : Int) ≤ ax := by omega
      clear hno'
      go_enter Try.func20, Try.ntmps20
      go_wp2_with (refine (C.out _ _ HX.out).mono ?_; rintro e w' ⟨rfl, rfl⟩)
      refine bodyPost_ret (v := .tuple #[.int .i64 0, .int .i64 0, .int .i64 0, .bool false]) (by simp [results, Try.results20, go_sem]) rfl ⟨rfl, rfl⟩
  · have hy1 : (y == 0) = false := by simpa using hy
    have hy2 : (y != 0) = true := by simpa using hy
    clear hno hy
    go_enter Try.func20, Try.ntmps20
    go_wp2_with (refine (C.out _ _ HX.out).mono ?_; rintro e w' ⟨rfl, rfl⟩)
    exact bodyPost_ret (v := .tuple #[.int .i64 0, .int .i64 0, .int .i64 0, .bool false]) (by simp [results, Try.results20, go_sem]) rfl ⟨rfl, rfl⟩

set_option maxHeartbeats 1000000 in
theorem raround_no (a : Option Addr) (len cap : Nat) (zs : List Int) (ax : Int) (w : World) (hS : SlI w .i64 a len cap zs) (hno : (cnt zs).2 ≠ 0 ∨ ax < 0 ∨ (len : Int) ≤ ax) :
    Calls Try.prog 21 #[.slice a len cap, .int .i64 ax] w fun e w' => e = .returned (.tuple #[.int .i64 0, .int .i64 0, .int .i64 0, .bool false]) ∧ w = w' := by
  have C : Hid (∀ x y, cnt zs = (x, y) → Calls Try.prog 13 #[.slice a len cap] w fun e w' => e = .returned (.tuple #[.int .i64 x, .int .i64 y]) ∧ w = w') := fun x y hx => by
    have := rcount_c a len cap zs w hS.len hS.rdI
    rw [rcnt_eq, hx] at this; exact this
  have hle : len ≤ 140737488351232 := by have := hS.rdI.le; have := hS.len; omega
  obtain ⟨x, y, hx⟩ : ∃ x y, cnt zs = (x, y) := ⟨(cnt zs).1, (cnt zs).2, rfl⟩
  rw [hx] at hno
  have HX := Lib.hid hx
  clear hS hx
  by_cases hy : y = 0
  · subst hy
    have hno' : ax < 0 ∨ (len : Int) ≤ ax := by simpa using hno
    clear hno
    by_cases hn : ax < 0
    · have hd : decide (ax < 0) = true := by simpa using hn
      clear hno'
      go_enter Try.func21, Try.ntmps21
      go_wp2_with (refine (C.out _ _ HX.out).mono ?_; rintro e w' ⟨rfl, rfl⟩)
      refine bodyPost_ret (v := .tuple #[.int .i64 0, .int .i64 0, .int .i64 0, .bool false]) (by simp [results, Try.results21, go_sem]) rfl ⟨rfl, rfl⟩
    · have hd : decide (ax < 0) = false := by simpa using hn
      have hxn : (len : Int) ≤ ax := by omega
      clear hno'
      go_enter Try.func21, Try.ntmps21
      go_wp2_with (refine (C.out _ _ HX.out).mono ?_; rintro e w' ⟨rfl, rfl⟩)
      refine bodyPost_ret (v := .tuple #[.int .i64 0, .int .i64 0, .int .i64 0, .bool false]) (by simp [results, Try.results21, go_sem]) rfl ⟨rfl, rfl⟩
  · have hy1 : (y == 0) = false := by simpa using hy
    have hy2 : (y != 0) = true := by simpa using hy
    clear hno hy
    go_enter Try.func21, Try.ntmps21
    go_wp2_with (refine (C.out _ _ HX.out).mono ?_; rintro e w' ⟨rfl, rfl⟩)
    exact bodyPost_ret (v := .tuple #[.int .i64 0, .int .i64 0, .int .i64 0, .bool false]) (by simp [results, Try.results21, go_sem]) rfl ⟨rfl, rfl⟩


theorem small_take {s : List Int} (h : Small s) (k : Nat) : Small (s.take k) := fun z hz => h z (List.mem_of_mem_take hz)
theorem small_drop {s : List Int} (h : Small s) (k : Nat) : Small (s.drop k) := fun z hz => h z (List.mem_of_mem_drop hz)

set_option maxHeartbeats 1000000 in
theorem around_yes (a : Option Addr) (len cap : Nat) (zs : List Int) (ax : Nat) (z : Int) (w : World) (hS : SlI w .i64 a len cap zs) (hc : (cnt zs).2 = 0) (hax : ax < len) (hz : zs[ax]? = some z) :
    Calls Try.prog 20 #[.slice a len cap, .int .i64 ax] w fun e w' => e = .returned (.tuple #[.int .i64 (prodC (zs.take ax) 1), .int .i64 z, .int .i64 (prodC (zs.drop (ax + 1)) 1), .bool true]) ∧ ∃ n, w' = w.drewN n := by
  have C : Hid (∀ x y, cnt zs = (x, y) → Calls Try.prog 12 #[.slice a len cap] w fun e w' => e = .returned (.tuple #[.int .i64 x, .int .i64 y]) ∧ w = w') := fun x y hx => by
    have := count_c a len cap zs w hS.len hS.rdI
    rw [hx] at this; exact this
  have hle : len ≤ 140737488351232 := by have := hS.rdI.le; have := hS.len; omega
  obtain ⟨x, hx⟩ : ∃ x, cnt zs = (x, 0) := ⟨(cnt zs).1, by rw [← hc]⟩
  obtain ⟨b, off, z', rfl, hbb, hz', hcell⟩ := hS.rdI.get (i := ax) (by rw [hS.len]; exact hax)
  obtain rfl : z = z' := by rw [hz] at hz'; exact Option.some.inj hz'
  obtain ⟨a1, hS1, hr1⟩ := part_lo hS ax (by omega)
  obtain ⟨a2, hS2, hr2⟩ := part_hi hS (ax + 1) (by omega) ((ax : Int) + 1) (by omega)
  have P1 : Hid (∀ n, Calls Try.prog 44 #[.slice a1 ax cap] (w.drewN n) fun e w' => e = .returned (.int .i64 (prodC (zs.take ax) 1)) ∧ ∃ m, w' = w.drewN m) := fun n =>
    (product_c a1 ax cap (zs.take ax) (w.drewN n) hS1.len ((SlI.below hS1 (below_drewN (Below.refl _ _) n) (Nat.le_refl _)).rdI) (small_take (cnt_small hc) _)).mono fun e w' ⟨he, hw⟩ => ⟨he, n, hw.symm⟩
  have P2 : Hid (∀ n, Calls Try.prog 44 #[.slice a2 (len - (ax + 1)) (cap - (ax + 1))] (w.drewN n) fun e w' => e = .returned (.int .i64 (prodC (zs.drop (ax + 1)) 1)) ∧ ∃ m, w' = w.drewN m) := fun n =>
    (product_c a2 (len - (ax + 1)) (cap - (ax + 1)) (zs.drop (ax + 1)) (w.drewN n) hS2.len ((SlI.below hS2 (below_drewN (Below.refl _ _) n) (Nat.le_refl _)).rdI) (small_drop (cnt_small hc) _)).mono fun e w' ⟨he, hw⟩ => ⟨he, n, hw.symm⟩
  have hd : decide ((ax : Int) < 0) = false := by simp
  have hd2 : decide ((len : Int) ≤ (ax : Int)) = false := by simp; omega
  have hk0 : (0 : Int) ≤ (ax : Int) := by omega
  have hk1 : (ax : Int) < (len : Int) := by omega
  have hw1 : IntKind.i64.wrap ((ax : Int) + 1) = (ax : Int) + 1 := IntWalk.i64_in _ (by omega)
  have HX := Lib.hid hx
  obtain ⟨p1, hp1⟩ : ∃ p1, prodC (zs.take ax) 1 = p1 := ⟨_, rfl⟩
  obtain ⟨p2, hp2⟩ : ∃ p2, prodC (zs.drop (ax + 1)) 1 = p2 := ⟨_, rfl⟩
  rw [hp1] at P1 ⊢
  rw [hp2] at P2 ⊢
  clear hS hx hc hz hz' hS1 hS2 hp1 hp2
  go_enter Try.func20, Try.ntmps20
  go_wp2_with ((with_reducible refine (C.out _ _ HX.out).mono ?_); rintro e w' ⟨rfl, rfl⟩)
  go_quiet (first | (with_reducible exact P1.out _) | (with_reducible exact P2.out _))
  go_wp2
  exact bodyPost_ret (v := .tuple #[.int .i64 p1, .int .i64 z, .int .i64 p2, .bool true]) (by simp [results, Try.results20, go_sem]) rfl ⟨rfl, _, rfl⟩

end Go.Proofs.Ytdnoidocmcpeaaa
