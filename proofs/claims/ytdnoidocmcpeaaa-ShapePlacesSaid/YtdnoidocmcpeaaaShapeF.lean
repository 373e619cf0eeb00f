/- Walks: layer 7: copies, the next place, all places. -/
import Derived.Test.YtdnoidocmcpeaaaShapeE
namespace Go.Proofs.Ytdnoidocmcpeaaa
set_option linter.unusedVariables false
open Go.RowKit

set_option maxHeartbeats 1000000 in
theorem cloneI_c (a : Option Addr) (len cap : Nat) (cs : List Value) (w : World) (hS : Sl w a len cap 1 cs) (hB : len ≤ 1000000) :
    Calls Try.prog 46 #[.slice a len cap] w fun e w' => ∃ a' c', e = .returned (.slice a' len c') ∧ w'.ownsRow w.heap.size 3 1 (.slice a' len c') len cs ∧ Below w.heap.size w w' := by
  cases a with
  | none =>
    have hc := hS.empty rfl
    have hl : len = 0 := by have := hS.fits; omega
    subst hc; subst hl
    have hcs : cs = [] := List.eq_nil_of_length_eq_zero (by simpa using hS.size)
    subst hcs
    have hnil := fun W => Lib.run_eql_slice_nil (P := Try.prog) W 22 3 none 0 0 0 0 Try.underlying22
    clear hS
    go_enter Try.func46, Try.ntmps46
    go_wp2
    go_ret
    exact ⟨none, 0, rfl, World.ownsRow_nil _ _ _ _, Below.refl _ _⟩
  | some x =>
    have hnil := fun W => Lib.run_eql_slice_nil (P := Try.prog) W 22 3 (some x) len cap 0 0 Try.underlying22
    have HS := Lib.hid hS
    clear hS
    have H0 : Hid ((w.alloc (.cells #[] 3)).ownsRow w.heap.size 3 1 (.slice (some ⟨w.heap.size, 0, none⟩) 0 0) 0 []) := World.ownsRow_lit w #[] 0 (Nat.le_refl _) (Nat.zero_le _) (by simp)
    go_enter Try.func46, Try.ntmps46
    go_wp2_with (at_builtin; refine wpl_append elI rfl _ _ rfl w.heap.size _ 0 [] rfl H0.out _ _ _ cs rfl (HS.out.alloc _) (by unfold maxLen; omega) (by omega) (by simp) ?_; intro v' w1 hown hgr)
    obtain ⟨a', c', rfl⟩ : ∃ a' c', v' = .slice a' len c' := by
      rcases hown.2 with ⟨h1, h2⟩ | ⟨g, c, cur, h1, _⟩
      · exact ⟨none, 0, by rw [h1]; congr 1; omega⟩
      · exact ⟨_, _, by rw [h1]; congr 1; omega⟩
    go_ret
    exact ⟨a', c', rfl, by simpa using hown, ((Below.refl _ _).alloc (Nat.le_refl _) _).grown hgr (by simp) (own_ge H0.out)⟩


theorem NewI.len {W w : World} {a : Option Addr} {cap : Nat} {zs : List Int} (h : NewI W a cap zs w) : True := trivial

/-- append of plain slices in two steps, the second step's row -/
theorem take_drop_set (zs : List Int) (k : Nat) (v : Int) (h : k < zs.length) : zs.take k ++ [v] ++ zs.drop (k + 1) = zs.set k v := by
  rw [List.set_eq_take_append_cons_drop, if_pos h]; simp

set_option maxHeartbeats 1000000 in
theorem with_no (a : Option Addr) (len cap : Nat) (zs : List Int) (ax n : Int) (w : World) (hno : ax < 0 ∨ (len : Int) ≤ ax) (hlen : len ≤ 1000000) :
    Calls Try.prog 22 #[.slice a len cap, .int .i64 ax, .int .i64 n] w fun e w' => e = .returned (.tuple #[.slice none 0 0, .bool false]) ∧ w = w' := by
  by_cases hn : ax < 0
  · have hd : decide (ax < 0) = true := by simpa using hn
    clear hno
    go_enter Try.func22, Try.ntmps22
    go_wp2
    go_ret2
    exact ⟨rfl, rfl⟩
  · have hd : decide (ax < 0) = false := by simpa using hn
    have hx : (len : Int) ≤ ax := by omega
    clear hno
    go_enter Try.func22, Try.ntmps22
    go_wp2
    go_ret2
    exact ⟨rfl, rfl⟩

set_option maxHeartbeats 1000000 in
theorem with_yes (a : Option Addr) (len cap : Nat) (zs : List Int) (ax : Nat) (n : Int) (w : World) (hS : SlI w .i64 a len cap zs) (hax : ax < len) (hlen : len ≤ 1000000) :
    Calls Try.prog 22 #[.slice a len cap, .int .i64 ax, .int .i64 n] w fun e w' => ∃ a' c', e = .returned (.tuple #[.slice a' len c', .bool true]) ∧ NewI w a' c' (zs.set ax n) w' := by
  have hd : decide ((ax : Int) < 0) = false := by simp
  have hd2 : decide ((len : Int) ≤ (ax : Int)) = false := by simp; omega
  have hlt : (ax : Int) < (len : Int) := by omega
  have HS := Lib.hid hS
  have HL := Lib.hid hS.len
  clear hS
  go_enter Try.func22, Try.ntmps22
  go_wp2_with fail
  refine (cloneI_c a len cap _ w HS.out hlen).mono ?_
  rintro e w' ⟨a', c', rfl, hown, hb⟩
  have h2 := hown.2
  obtain ⟨g, rfl⟩ : ∃ g, a' = some ⟨g, 0, none⟩ := by
    rcases hown.2 with ⟨h1, h2⟩ | ⟨g, c, cur, h1, _⟩
    · omega
    · simp only [Value.slice.injEq] at h1; exact ⟨g, h1.1⟩
  have hg : w.heap.size ≤ g := own_ge hown g rfl
  have hc2 : w'.cell? ⟨g, ax, none⟩ = some (.int .i64 (zs.getD ax 0)) := by
    rw [hown.cellAt ax (by omega)]
    have hz : ax < zs.length := by rw [HL.out]; exact hax
    simp [hz]
  have hf2 := hown.frozenAt ax
  have HN : Hid ((w'.setCell ⟨g, ax, none⟩ (.int .i64 n)).ownsRow w.heap.size 3 1 (.slice (some ⟨g, 0, none⟩) len c') len ((zs.set ax n).map (Value.int .i64)) ∧ Below w.heap.size w (w'.setCell ⟨g, ax, none⟩ (.int .i64 n))) := by
    refine ⟨?_, hb.setCell hg _⟩
    rw [List.map_set]; exact (hown.stored ax (.int .i64 n)).1
  clear hown hb h2
  go_wp2
  go_ret2
  exact ⟨some ⟨g, 0, none⟩, c', rfl, by rw [List.length_set, HL.out]; exact HN.out.1, HN.out.2⟩

end Go.Proofs.Ytdnoidocmcpeaaa
