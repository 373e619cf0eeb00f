/- Walks: layer 7: functions that make places and shapes. -/
import Derived.Test.YtdnoidocmcpeaaaShapeD
import Derived.Test.YtdnoidocmcpeaaaShapeP3
namespace Go.Proofs.Ytdnoidocmcpeaaa
set_option linter.unusedVariables false
open Go.RowKit

theorem elI : ElemT Try.prog 22 3 (.int .i64 0) 1 8 := ⟨Try.underlying22, by kernel_rfl, rfl, by decide⟩

set_option maxHeartbeats 1000000 in
theorem at_no (a : Option Addr) (len cap : Nat) (zs : List Int) (n : Int) (w : World) (hl : zs.length = len) (h : RdI w .i64 a zs) (hno : (cnt zs).2 ≠ 0 ∨ n < 0 ∨ (cnt zs).1 ≤ n) :
    Calls Try.prog 17 #[.slice a len cap, .int .i64 n] w fun e w' => e = .returned (.tuple #[.slice none 0 0, .bool false]) ∧ w = w' := by
  have C : Hid (∀ x y, cnt zs = (x, y) → Calls Try.prog 12 #[.slice a len cap] w fun e w' => e = .returned (.tuple #[.int .i64 x, .int .i64 y]) ∧ w = w') := fun x y hx => by
    have := count_c a len cap zs w hl h
    rw [hx] at this; exact this
  obtain ⟨x, y, hx⟩ : ∃ x y, cnt zs = (x, y) := ⟨(cnt zs).1, (cnt zs).2, rfl⟩
  rw [hx] at hno
  have HX := Lib.hid hx
  clear hl h hx
  by_cases hy : y = 0
  · subst hy
    have hno' : n < 0 ∨ x ≤ n := by simpa using hno
    clear hno
    by_cases hn : n < 0
    · have hd : decide (n < 0) = true := by simpa using hn
      clear hno'
      go_enter Try.func17, Try.ntmps17
      go_wp2_with (refine (C.out _ _ HX.out).mono ?_; rintro e w' ⟨rfl, rfl⟩)
      go_ret2
      exact ⟨rfl, rfl⟩
    · have hd : decide (n < 0) = false := by simpa using hn
      have hxn : x ≤ n := by omega
      clear hno'
      go_enter Try.func17, Try.ntmps17
      go_wp2_with (refine (C.out _ _ HX.out).mono ?_; rintro e w' ⟨rfl, rfl⟩)
      go_ret2
      exact ⟨rfl, rfl⟩
  · have hy1 : (y == 0) = false := by simpa using hy
    have hy2 : (y != 0) = true := by simpa using hy
    clear hno hy
    go_enter Try.func17, Try.ntmps17
    go_wp2_with (refine (C.out _ _ HX.out).mono ?_; rintro e w' ⟨rfl, rfl⟩)
    go_ret2
    exact ⟨rfl, rfl⟩

/-- a slice of whole numbers in new memory -/
def NewI (W : World) (a : Option Addr) (cap : Nat) (zs : List Int) (w : World) : Prop := w.ownsRow W.heap.size 3 1 (.slice a zs.length cap) zs.length (zs.map (Value.int .i64)) ∧ Below W.heap.size W w

set_option maxHeartbeats 1000000 in
theorem at_yes (a : Option Addr) (len cap : Nat) (zs : List Int) (n : Int) (w : World) (hl : zs.length = len) (h : RdI w .i64 a zs) (hc : (cnt zs).2 = 0) (hn0 : 0 ≤ n) (hn1 : n < (cnt zs).1) :
    Calls Try.prog 17 #[.slice a len cap, .int .i64 n] w fun e w' => e = .returned (.tuple #[.slice (some ⟨w.heap.size, 0, none⟩) len len, .bool true]) ∧ NewI w (some ⟨w.heap.size, 0, none⟩) len (digR zs n).2 w' := by
  have C : Hid (∀ x y, cnt zs = (x, y) → Calls Try.prog 12 #[.slice a len cap] w fun e w' => e = .returned (.tuple #[.int .i64 x, .int .i64 y]) ∧ w = w') := fun x y hx => by
    have := count_c a len cap zs w hl h
    rw [hx] at this; exact this
  obtain ⟨x, hx⟩ : ∃ x, cnt zs = (x, 0) := ⟨(cnt zs).1, by rw [← hc]⟩
  have hpos : Hid (∀ z ∈ zs, 0 < z ∧ z ≤ 2048) := fun z hz => by
    have hs := cnt_small hc z hz
    refine ⟨?_, hs.2⟩
    rcases Int.lt_or_eq_of_le hs.1 with h | h
    · exact h
    · subst h
      have := prodL_zero hz
      rw [← cnt_prod hc] at this; omega
  have hx2 := cnt_le zs
  rw [hx] at hn1 hx2
  have hxb : x ≤ 2048 := hx2.2
  have hn2 : n < x := hn1
  have hlen := cnt_len hc
  have hlen6 : len ≤ 6 := by omega
  have HX := Lib.hid hx
  have HL := Lib.hid hl
  have H := Lib.hid h
  have hd : decide (n < 0) = false := by simpa using hn0
  clear hl h hx hc hx2 hn1 hlen
  go_enter Try.func17, Try.ntmps17
  go_wp2_with (first | (refine (C.out _ _ HX.out).mono ?_; rintro e w' ⟨rfl, rfl⟩) | (at_make; refine wpl_make elI rfl _ _ rfl w.heap.size _ _ _ _ len rfl rfl (by rfl) (by rfl) (by omega) (by unfold maxLen; omega) (Nat.le_refl _) ?_; intro w1 hown hgr))
  rw [show (madeCells (Value.int IntKind.i64 0).cells (len * 1)).toList = (List.replicate len 0 ++ ([] : List Int)).map (Value.int .i64) from by rw [Nat.mul_one]; simp [Value.cells, toList_madeCells_one]] at hown
  have HO := Lib.hid hown
  have HB : Hid (Below w.heap.size w w1) := (Below.refl _ _).grown hgr (Nat.le_refl _) (by simp)
  have HD : Hid (digR (zs.drop len) n = (n, [])) := by rw [Hid, drop_end (by rw [HL.out]; exact Nat.le_refl _)]; rfl
  clear hown hgr
  go_loopw [1, 9] (fun nv iv wr => ∃ (j : Nat) (q m : Int) (ds : List Int), j ≤ len ∧ q + 1 = j ∧ iv = .int .i64 q ∧ nv = .int .i64 m ∧ 0 ≤ m ∧ m ≤ 2048 ∧ Hid (digR (zs.drop j) n = (m, ds)) ∧
      Hid (wr.ownsRow w.heap.size 3 1 (.slice (some ⟨w.heap.size, 0, none⟩) len len) len ((List.replicate j 0 ++ ds).map (Value.int .i64))) ∧ Hid (Below w.heap.size w wr)) (fun _ iv _ => (intOf iv + 1).toNat)
  case atStart => exact ⟨len, len - 1, n, [], Nat.le_refl _, by omega, rfl, rfl, hn0, by omega, HD, HO, HB⟩
  case round =>
    obtain ⟨j, q, m, ds, hj, hq, rfl, rfl, hm0, hm1, hdg, ho, hb⟩ := hrel
    rcases j with _ | j
    · obtain rfl : q = -1 := by omega
      have HE : Hid (wr.ownsRow w.heap.size 3 1 (.slice (some ⟨w.heap.size, 0, none⟩) len len) len ((digR zs n).2.map (Value.int .i64))) := by
        have h1 := hdg.out
        rw [List.drop_zero] at h1
        have h2 := ho.out
        rw [Hid, h1]; simpa using h2
      clear hq
      go_wp2
      go_ret2
      exact ⟨rfl, by rw [digR_len, HL.out]; exact HE.out, hb.out⟩
    · obtain rfl : q = (j : Int) := by omega
      have hjl : j < len := by omega
      obtain ⟨b, off, z, rfl, hbb, hz, hcell⟩ := H.out.get (i := j) (by rw [HL.out]; exact hjl)
      obtain ⟨hz0, hz1⟩ := hpos.out z (List.mem_of_getElem? hz)
      have hc1 : wr.cell? ⟨b, off + j, none⟩ = some (.int .i64 z) := by rw [hb.out.cell (by exact hbb)]; exact hcell
      have hlen2 : (List.replicate (j + 1) 0 ++ ds).length = len := by have := ho.out.1; simpa using this
      have hc2 : wr.cell? ⟨w.heap.size, j, none⟩ = some (.int .i64 0) := by
        rw [ho.out.cellAt j (by omega)]
        simp [List.getElem?_append]
      have hf2 : wr.frozen? ⟨w.heap.size, j, none⟩ = false := ho.out.frozenAt j
      have HS : Hid ((wr.setCell ⟨w.heap.size, j, none⟩ (.int .i64 (m % z))).ownsRow w.heap.size 3 1 (.slice (some ⟨w.heap.size, 0, none⟩) len len) len ((List.replicate j 0 ++ (m % z) :: ds).map (Value.int .i64)) ∧ Below w.heap.size w (wr.setCell ⟨w.heap.size, j, none⟩ (.int .i64 (m % z)))) := by
        refine ⟨?_, hb.out.setCell (Nat.le_refl _) _⟩
        have := (ho.out.stored j (.int .i64 (m % z))).1
        rw [← List.map_set, rep_set] at this
        exact this
      have HDJ : Hid (digR (zs.drop j) n = (m / z, (m % z) :: ds)) := by rw [Hid, dropA_cons hz, digR, hdg.out]
      have hq0 : 0 ≤ m / z := Int.ediv_nonneg hm0 (by omega)
      have hq1 : m / z ≤ 2048 := Int.le_trans (Int.ediv_le_self _ hm0) hm1
      clear hq hlen2 hdg ho hcell
      have HBB := hb
      clear hb hz
      go_wp2
      go_roundw
      case rel => exact ⟨j, (j : Int) - 1, m / z, (m % z) :: ds, by omega, by omega, rfl, rfl, hq0, hq1, HDJ, HS.out.1, HS.out.2⟩
      case measure => simp [intOf]

end Go.Proofs.Ytdnoidocmcpeaaa
