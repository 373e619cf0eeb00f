/- Walks: layer 7, more functions that only read. -/
import Derived.Test.YtdnoidocmcpeaaaShapeA
namespace Go.Proofs.Ytdnoidocmcpeaaa
set_option linter.unusedVariables false
open Go.RowKit

set_option maxHeartbeats 1000000 in
theorem rcount_c (a : Option Addr) (len cap : Nat) (zs : List Int) (w : World) (hl : zs.length = len) (h : RdI w .i64 a zs) :
    Calls Try.prog 13 #[.slice a len cap] w fun e w' => e = .returned (.tuple #[.int .i64 (rcnt zs).1, .int .i64 (rcnt zs).2]) ∧ w = w' := by
  have hle : len ≤ 140737488351232 := by have := h.le; omega
  have HL := Lib.hid hl
  have H := Lib.hid h; clear h
  by_cases hw : zs.length > 6
  · have E : Hid (rcnt zs = (0, 7)) := by simp [Hid, rcnt, hw]
    have hlen : 6 < len := by omega
    clear hl hw
    go_enter Try.func13, Try.ntmps13
    go_wp2
    go_ret2
    exact ⟨by rw [E.out]; rfl, rfl⟩
  have hlen : len ≤ 6 := by omega
  have E0 : Hid (rcnt zs = rfin (chk zs false false) (mulC zs 1)) := by simp only [Hid, rcnt]; rw [if_neg hw]
  have E : Hid (chk zs false false = chk (zs.drop 0) false false) := by simp [Hid]
  clear hl hw
  go_enter Try.func13, Try.ntmps13
  go_wp2
  go_loop [4, 5, 6] (fun b n i => ∃ (k : Nat) (B N : Bool), k ≤ len ∧ i = .int .i64 k ∧ b = .bool B ∧ n = .bool N ∧ Hid (chk zs false false = chk (zs.drop k) B N)) (fun _ _ i => len - (intOf i).toNat)
  case atStart => exact ⟨0, false, false, Nat.zero_le _, rfl, rfl, rfl, E⟩
  case round =>
    obtain ⟨k, B, N, hk, rfl, rfl, rfl, hE⟩ := hrel
    by_cases hlt : k < len
    · obtain ⟨b, off, z, rfl, hb, hz, hc⟩ := H.out.get (i := k) (by rw [HL.out]; exact hlt)
      have HZ := Lib.hid hz; clear hz
      by_cases hneg : z < 0
      · have E1 : Hid (rcnt zs = (0, 3)) := by rw [Hid, E0.out, hE.out, drop_cons HZ.out, chk, if_pos hneg]; rfl
        clear E0 E hE
        go_wp2
        go_ret2
        exact ⟨by rw [E1.out]; rfl, rfl⟩
      · have E1 : Hid (chk zs false false = chk (zs.drop (k + 1)) (B || decide (2048 < z)) (N || z == 0)) := by rw [Hid, hE.out, drop_cons HZ.out, chk, if_neg hneg]
        clear hE
        cases B <;> cases N
        all_goals
          go_wp2
          go_round
          case rel => exact ⟨k + 1, _, _, by omega, by go_num, rfl, rfl, E1⟩
          case measure => simp [intOf]; omega
    · have E1 : Hid (chk zs false false = some (B, N)) := by rw [Hid, hE.out, drop_end (by rw [HL.out]; omega), chk]
      have E2 : Hid (rcnt zs = rfin (some (B, N)) (mulC zs 1)) := by rw [Hid, E0.out, E1.out]
      clear hE E0 E
      cases B
      · cases N
        · have HS := Lib.hid (small_of_chk E1.out)
          have E : Hid (mulC zs 1 = mulC (zs.drop 0) 1) := by simp [Hid]
          clear E1
          go_wp2
          go_loop [7, 8] (fun o i => ∃ (k : Nat) (p : Int), k ≤ len ∧ i = .int .i64 k ∧ o = .int .i64 p ∧ 0 ≤ p ∧ p ≤ 2048 ∧ Hid (mulC zs 1 = mulC (zs.drop k) p)) (fun _ i => len - (intOf i).toNat)
          case atStart => exact ⟨0, 1, Nat.zero_le _, rfl, rfl, by omega, by omega, E⟩
          case round =>
            obtain ⟨k, p, hk, rfl, rfl, hp0, hp1, hE⟩ := hrel
            by_cases hlt : k < len
            · obtain ⟨b, off, z, rfl, hb, hz, hc⟩ := H.out.get (i := k) (by rw [HL.out]; exact hlt)
              obtain ⟨hz0, hz1⟩ := HS.out z (List.mem_of_getElem? hz)
              have HZ := Lib.hid hz; clear hz
              have hm0 : 0 ≤ p * z := Int.mul_nonneg hp0 hz0
              have hm1 : p * z ≤ 2048 * 2048 := Int.mul_le_mul hp1 hz1 hz0 (by omega)
              by_cases hbig : p * z > 2048
              · have E3 : Hid (rcnt zs = (0, 7)) := by rw [Hid, E2.out, hE.out, drop_cons HZ.out, mulC, if_pos hbig]; rfl
                clear E2 hE
                go_wp2
                go_ret2
                exact ⟨by rw [E3.out]; rfl, rfl⟩
              · go_wp2
                go_round
                case rel => exact ⟨k + 1, p * z, by omega, by go_num, rfl, hm0, by omega, by rw [Hid, hE.out, drop_cons HZ.out, mulC, if_neg hbig]⟩
                case measure => simp [intOf]; omega
            · have E3 : Hid (rcnt zs = (p, 0)) := by rw [Hid, E2.out, hE.out, drop_end (by rw [HL.out]; omega)]; rfl
              clear E2 hE
              go_wp2
              go_ret2
              exact ⟨by rw [E3.out]; rfl, rfl⟩
        · go_wp2
          go_ret2
          exact ⟨by rw [E2.out]; rfl, rfl⟩
      · go_wp2
        go_ret2
        exact ⟨by rw [E2.out]; rfl, rfl⟩

end Go.Proofs.Ytdnoidocmcpeaaa
