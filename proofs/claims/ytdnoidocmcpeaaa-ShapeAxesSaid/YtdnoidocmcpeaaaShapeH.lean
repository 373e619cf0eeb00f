/- Walks: layer 7: shapes without an axis. -/
import Derived.Test.YtdnoidocmcpeaaaShapeG
namespace Go.Proofs.Ytdnoidocmcpeaaa
set_option linter.unusedVariables false
open Go.RowKit

set_option maxHeartbeats 1000000 in
theorem without_no (g : Nat) (hg : g = 24 ∨ g = 25) (a : Option Addr) (len cap : Nat) (ax : Int) (w : World) (hno : ax < 0 ∨ (len : Int) ≤ ax) (hlen : len ≤ 1000000) :
    Calls Try.prog g #[.slice a len cap, .int .i64 ax] w fun e w' => e = .returned (.tuple #[.slice none 0 0, .bool false]) ∧ w = w' := by
  by_cases hn : ax < 0
  · have hd : decide (ax < 0) = true := by simpa using hn
    clear hno
    rcases hg with rfl | rfl
    · go_enter Try.func24, Try.ntmps24
      go_wp2
      go_ret2
      exact ⟨rfl, rfl⟩
    · go_enter Try.func25, Try.ntmps25
      go_wp2
      go_ret2
      exact ⟨rfl, rfl⟩
  · have hd : decide (ax < 0) = false := by simpa using hn
    have hx : (len : Int) ≤ ax := by omega
    clear hno
    rcases hg with rfl | rfl
    · go_enter Try.func24, Try.ntmps24
      go_wp2
      go_ret2
      exact ⟨rfl, rfl⟩
    · go_enter Try.func25, Try.ntmps25
      go_wp2
      go_ret2
      exact ⟨rfl, rfl⟩

set_option maxHeartbeats 1000000 in
theorem without_yes (a : Option Addr) (len cap : Nat) (zs : List Int) (ax : Nat) (w : World) (hS : SlI w .i64 a len cap zs) (hax : ax < len) (hlen : len ≤ 1000000) :
    Calls Try.prog 24 #[.slice a len cap, .int .i64 ax] w fun e w' => ∃ a' c', e = .returned (.tuple #[.slice a' (len - 1) c', .bool true]) ∧ NewI w a' c' (zs.eraseIdx ax) w' := by
  have hd : decide ((ax : Int) < 0) = false := by simp
  have hd2 : decide ((len : Int) ≤ (ax : Int)) = false := by simp; omega
  have hlt : (ax : Int) < (len : Int) := by omega
  obtain ⟨a1, hS1, hr1⟩ := part_lo hS ax (by omega)
  obtain ⟨a2, hS2, hr2⟩ := part_hi hS (ax + 1) (by omega) ((ax : Int) + 1) (by omega)
  have HS1 := Lib.hid hS1
  have HS2 := Lib.hid hS2
  have HL := Lib.hid hS.len
  clear hS hS1 hS2
  go_enter Try.func24, Try.ntmps24
  go_wp2_with (first
    | (at_make
       refine wpl_makeCap elI rfl _ _ rfl w.heap.size _ _ _ (len - 1) rfl rfl (by omega) (by omega) (by unfold maxLen; omega) (Nat.le_refl _) ?_
       intro w0 hown0 hgr0
       have HB0 : Hid (Below w.heap.size w w0) := (Below.refl _ _).grown hgr0 (Nat.le_refl _) (by simp)
       have HO0 := Lib.hid hown0
       have hsz0 : w.heap.size ≤ w0.heap.size := HB0.out.size
       clear hown0 hgr0)
    | (at_builtin
       refine wpl_append elI rfl (.tmp 19) (.tmp 22) rfl w.heap.size (.slice (some ⟨w.heap.size, 0, none⟩) 0 (len - 1)) 0 [] rfl HO0.out _ _ _ _ rfl (HS1.out.below HB0.out (Nat.le_refl _)) (by unfold maxLen; omega) (by omega) hsz0 ?_
       intro v1 w1 hown1 hgr1
       have HB1 : Hid (Below w.heap.size w w1) := HB0.out.grown hgr1 hsz0 (own_ge HO0.out)
       have HO1 := Lib.hid (own_eq hown1 (m := ax) (ys := (zs.take ax).map (Value.int .i64)) (by omega) (by simp))
       obtain ⟨b1, c1, rfl⟩ := own_slice HO1.out
       have hsz : w.heap.size ≤ w1.heap.size := HB1.out.size
       clear hown1 hgr1)
    | (at_builtin
       refine wpl_append elI rfl (.tmp 24) (.tmp 28) rfl w.heap.size (.slice b1 ax c1) ax ((zs.take ax).map (Value.int .i64)) rfl HO1.out _ _ _ _ rfl (HS2.out.below HB1.out (Nat.le_refl _)) (by unfold maxLen; omega) (by omega) hsz ?_
       intro v3 w3 hown3 hgr3
       have HB3 : Hid (Below w.heap.size w w3) := HB1.out.grown hgr3 hsz (own_ge HO1.out)
       have HO4 := Lib.hid (own_eq hown3 (m := len - 1) (ys := (zs.eraseIdx ax).map (Value.int .i64)) (by omega) (by rw [List.eraseIdx_eq_take_drop_succ]; simp))
       obtain ⟨b3, c3, rfl⟩ := own_slice HO4.out
       clear hown3 hgr3))
  go_ret2
  exact ⟨b3, c3, rfl, by rw [List.length_eraseIdx_of_lt (by rw [HL.out]; exact hax), HL.out]; exact HO4.out, HB3.out⟩

set_option maxHeartbeats 1000000 in
theorem rwithout_yes (a : Option Addr) (len cap : Nat) (zs : List Int) (ax : Nat) (w : World) (hS : SlI w .i64 a len cap zs) (hax : ax < len) (hlen : len ≤ 1000000) :
    Calls Try.prog 25 #[.slice a len cap, .int .i64 ax] w fun e w' => ∃ a' c', e = .returned (.tuple #[.slice a' (len - 1) c', .bool true]) ∧ NewI w a' c' (zs.eraseIdx ax) w' := by
  have hd : decide ((ax : Int) < 0) = false := by simp
  have hd2 : decide ((len : Int) ≤ (ax : Int)) = false := by simp; omega
  have hlt : (ax : Int) < (len : Int) := by omega
  obtain ⟨a1, hS1, hr1⟩ := part_lo hS ax (by omega)
  obtain ⟨a2, hS2, hr2⟩ := part_hi hS (ax + 1) (by omega) ((ax : Int) + 1) (by omega)
  have HS1 := Lib.hid hS1
  have HS2 := Lib.hid hS2
  have HL := Lib.hid hS.len
  clear hS hS1 hS2
  go_enter Try.func25, Try.ntmps25
  go_wp2_with (first
    | (at_builtin
       refine wpl_append elI rfl (.tmp 15) (.tmp 18) rfl w.heap.size (.slice none 0 0) 0 [] rfl (World.ownsRow_nil _ _ _ _) _ _ _ _ rfl HS1.out (by unfold maxLen; omega) (by omega) (Nat.le_refl _) ?_
       intro v1 w1 hown1 hgr1
       have HB1 : Hid (Below w.heap.size w w1) := (Below.refl _ _).grown hgr1 (Nat.le_refl _) (by simp [Value.ownBlock])
       have HO1 := Lib.hid (own_eq hown1 (m := ax) (ys := (zs.take ax).map (Value.int .i64)) (by omega) (by simp))
       obtain ⟨b1, c1, rfl⟩ := own_slice HO1.out
       have hsz : w.heap.size ≤ w1.heap.size := HB1.out.size
       clear hown1 hgr1)
    | (at_builtin
       refine wpl_append elI rfl (.tmp 20) (.tmp 24) rfl w.heap.size (.slice b1 ax c1) ax ((zs.take ax).map (Value.int .i64)) rfl HO1.out _ _ _ _ rfl (HS2.out.below HB1.out (Nat.le_refl _)) (by unfold maxLen; omega) (by omega) hsz ?_
       intro v3 w3 hown3 hgr3
       have HB3 : Hid (Below w.heap.size w w3) := HB1.out.grown hgr3 hsz (own_ge HO1.out)
       have HO4 := Lib.hid (own_eq hown3 (m := len - 1) (ys := (zs.eraseIdx ax).map (Value.int .i64)) (by omega) (by rw [List.eraseIdx_eq_take_drop_succ]; simp))
       obtain ⟨b3, c3, rfl⟩ := own_slice HO4.out
       clear hown3 hgr3))
  go_ret2
  exact ⟨b3, c3, rfl, by rw [List.length_eraseIdx_of_lt (by rw [HL.out]; exact hax), HL.out]; exact HO4.out, HB3.out⟩

end Go.Proofs.Ytdnoidocmcpeaaa
