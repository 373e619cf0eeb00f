/- Walks: shape.Index; the chapter's example; the law ShapeCounts. -/
import Derived.Test.YtdnoidocmcpeaaaShapeB
import Derived.Test.YtdnoidocmcpeaaaShapeP2
namespace Go.Proofs.Ytdnoidocmcpeaaa
set_option linter.unusedVariables false
open Go.RowKit

set_option maxHeartbeats 1000000 in
theorem indexS_c (a : Option Addr) (len cap : Nat) (zs : List Int) (a2 : Option Addr) (len2 cap2 : Nat) (ys : List Int) (w : World) (hl : zs.length = len) (h : RdI w .i64 a zs) (hl2 : ys.length = len2) (h2 : RdI w .i64 a2 ys) :
    Calls Try.prog 15 #[.slice a len cap, .slice a2 len2 cap2] w fun e w' => e = .returned (.tuple #[.int .i64 (idx zs ys).1, .bool (idx zs ys).2]) ∧ w = w' := by
  have hle : len ≤ 140737488351232 := by have := h.le; omega
  have hle2 : len2 ≤ 140737488351232 := by have := h2.le; omega
  have C : Hid (∀ x y, cnt zs = (x, y) → Calls Try.prog 12 #[.slice a len cap] w fun e w' => e = .returned (.tuple #[.int .i64 x, .int .i64 y]) ∧ w = w') := fun x y hx => by
    have := count_c a len cap zs w hl h
    rw [hx] at this; exact this
  have HL := Lib.hid hl
  have H := Lib.hid h
  have HL2 := Lib.hid hl2
  have H2 := Lib.hid h2
  clear h h2
  by_cases hc : (cnt zs).2 = 0
  · by_cases he : len2 = len
    · have E : Hid (idx zs ys = idxF (idxC zs ys 0)) := by simp only [Hid, idx]; rw [if_neg (by simp [hc]; omega)]
      have E2 : Hid (idxC zs ys 0 = idxC (zs.drop 0) (ys.drop 0) 0) := by simp [Hid]
      have hlen := cnt_len hc
      have HC := Lib.hid hc
      obtain ⟨x, hx⟩ : ∃ x, cnt zs = (x, 0) := ⟨(cnt zs).1, by rw [← hc]⟩
      have HX := Lib.hid hx
      have hlen6 : len ≤ 6 := by omega
      subst he
      clear hl hl2 hc hx hlen
      go_enter Try.func15, Try.ntmps15
      go_wp2_with (refine (C.out _ _ HX.out).mono ?_; rintro e w' ⟨rfl, rfl⟩)
      go_loop [8, 27] (fun o i => ∃ (k : Nat) (p : Int), k ≤ len2 ∧ i = .int .i64 k ∧ o = .int .i64 p ∧ 0 ≤ p ∧ p ≤ 36028797018963968 ∧ Hid (p < prodL (zs.take k)) ∧ Hid (idxC zs ys 0 = idxC (zs.drop k) (ys.drop k) p)) (fun _ i => len2 - (intOf i).toNat)
      case atStart => exact ⟨0, 0, Nat.zero_le _, rfl, rfl, by omega, by omega, by simp [Hid, prodL], E2⟩
      case round =>
        obtain ⟨k, p, hk, rfl, rfl, hp0, hpB, hpp, hE⟩ := hrel
        by_cases hlt : k < len2
        · obtain ⟨b, off, z, rfl, hb, hz, hcell⟩ := H.out.get (i := k) (by rw [HL.out]; exact hlt)
          obtain ⟨b2, off2, y, rfl, hb2, hy, hcell2⟩ := H2.out.get (i := k) (by rw [HL2.out]; exact hlt)
          have HZ := Lib.hid hz
          have HY := Lib.hid hy
          by_cases hout : y < 0 ∨ z ≤ y
          · have E3 : Hid (idx zs ys = (0, false)) := by rw [Hid, E.out, hE.out, dropA_cons hz, dropA_cons hy, idxC, if_pos hout]; rfl
            clear hE E E2 hz hy hpp
            by_cases hy0 : y < 0
            · clear hout
              have hd : decide (y < 0) = true := by simpa using hy0
              go_wp2
              go_ret2
              exact ⟨by rw [E3.out]; rfl, rfl⟩
            · have hzy : z ≤ y := by omega
              have hd : decide (y < 0) = false := by simpa using hy0
              clear hout
              go_wp2
              go_ret2
              exact ⟨by rw [E3.out]; rfl, rfl⟩
          · have hy0 : 0 ≤ y := by omega
            have hyz : y < z := by omega
            have hd : decide (y < 0) = false := by simp; omega
            have hd2 : decide (z ≤ y) = false := by simp; omega
            obtain ⟨hs1, hs2, hs3, hs4⟩ := idx_step HC.out hz hp0 hpp.out hy0 hyz
            have E3 : Hid (idxC zs ys 0 = idxC (zs.drop (k + 1)) (ys.drop (k + 1)) (p * z + y)) := by rw [Hid, hE.out, dropA_cons hz, dropA_cons hy, idxC, if_neg hout]
            have HS := Lib.hid hs1
            clear hE hz hy hpp hout hs1
            go_wp2
            go_round
            case rel => exact ⟨k + 1, p * z + y, by omega, by go_num, rfl, by omega, by omega, HS, E3⟩
            case measure => simp [intOf]; omega
        · have E3 : Hid (idx zs ys = (p, true)) := by rw [Hid, E.out, hE.out, drop_end (by rw [HL.out]; omega), idxC_nil]; rfl
          clear hE E E2
          go_wp2
          go_ret2
          exact ⟨by rw [E3.out]; rfl, rfl⟩
    · have E : Hid (idx zs ys = (0, false)) := by simp only [Hid, idx]; rw [if_pos (by right; omega)]
      obtain ⟨x, hx⟩ : ∃ x, cnt zs = (x, 0) := ⟨(cnt zs).1, by rw [← hc]⟩
      have HX := Lib.hid hx
      have hne : ((len2 : Int) == (len : Int)) = false := by simp; omega
      have hne2 : ((len2 : Int) != (len : Int)) = true := by simp; omega
      clear hl hl2 hc hx
      go_enter Try.func15, Try.ntmps15
      go_wp2_with (refine (C.out _ _ HX.out).mono ?_; rintro e w' ⟨rfl, rfl⟩)
      go_ret2
      exact ⟨by rw [E.out]; rfl, rfl⟩
  · have E : Hid (idx zs ys = (0, false)) := by simp only [Hid, idx]; rw [if_pos (by left; exact hc)]
    obtain ⟨x, y, hx⟩ : ∃ x y, cnt zs = (x, y) := ⟨(cnt zs).1, (cnt zs).2, rfl⟩
    have hy : (y == 0) = false := by rw [hx] at hc; simpa using hc
    have hy2 : (y != 0) = true := by rw [hx] at hc; simpa using hc
    have HX := Lib.hid hx
    clear hl hl2 hc hx
    go_enter Try.func15, Try.ntmps15
    go_wp2_with (refine (C.out _ _ HX.out).mono ?_; rintro e w' ⟨rfl, rfl⟩)
    go_ret2
    exact ⟨by rw [E.out]; rfl, rfl⟩

end Go.Proofs.Ytdnoidocmcpeaaa
