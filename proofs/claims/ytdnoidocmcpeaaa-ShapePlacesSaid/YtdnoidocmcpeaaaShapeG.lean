/- Walks: layer 7: shapes with another axis, without one. -/
import Derived.Test.YtdnoidocmcpeaaaShapeF
namespace Go.Proofs.Ytdnoidocmcpeaaa
set_option linter.unusedVariables false
open Go.RowKit

/-- what stands at a slice's part, with the walk's own equation for it -/
theorem part_lo {w : World} {a : Option Addr} {len cap : Nat} {zs : List Int} (h : SlI w .i64 a len cap zs) (k : Nat) (hk : k ≤ len) :
    ∃ a', SlI w .i64 a' k cap (zs.take k) ∧ ∀ W, (Instr.sliceAt 22 (.slice a len cap) none (some (.int .i64 k)) none).run Try.prog W = .ok (.slice a' k cap) W := by
  obtain ⟨a', h1, h2⟩ := Sl.part elI h 0 k (Nat.zero_le _) hk
  refine ⟨a', by simpa [SlI, ← List.map_take] using h1, fun W => ?_⟩
  obtain ⟨i, hi, hz0, hz1, hz2⟩ := info_parts elI.info
  have hf := h.fits
  rw [run_sliceAt_slice _ _ _ _ _ _ (by kernel_rfl)]
  rw [run_slice_h _ _ _ _ _ (by kernel_rfl) _ _ (by omega) (by omega)]
  subst h2
  have hs : (sizeOf (Try.prog.elem 22)).run Try.prog W = .ok 1 W := by kernel_rfl
  rw [hs]
  simp [Result.andThen, sliced]

theorem part_hi {w : World} {a : Option Addr} {len cap : Nat} {zs : List Int} (h : SlI w .i64 a len cap zs) (k : Nat) (hk : k ≤ len) (q : Int) (hq : q = (k : Int)) :
    ∃ a', SlI w .i64 a' (len - k) (cap - k) (zs.drop k) ∧ ∀ W, (Instr.sliceAt 22 (.slice a len cap) (some (.int .i64 q)) none none).run Try.prog W = .ok (.slice a' (len - k) (cap - k)) W := by
  obtain ⟨a', h1, h2⟩ := Sl.part elI h k len hk (Nat.le_refl _)
  have hl := h.len
  refine ⟨a', ?_, fun W => ?_⟩
  · have e : ((zs.map (Value.int .i64)).drop (k * 1)).take ((len - k) * 1) = (zs.drop k).map (Value.int .i64) := by
      rw [Nat.mul_one, Nat.mul_one, List.take_of_length_le (by simp; omega), List.map_drop]
    rw [e] at h1; exact h1
  · subst hq
    rw [run_sliceAt_slice _ _ _ _ _ _ (by kernel_rfl)]
    rw [run_slice_l _ _ _ _ _ (by kernel_rfl) _ _ (by omega) (by omega)]
    subst h2
    have hs : (sizeOf (Try.prog.elem 22)).run Try.prog W = .ok 1 W := by kernel_rfl
    rw [hs]
    simp [Result.andThen, sliced]

theorem SlI.below {w w' : World} {B : Nat} {k : IntKind} {a : Option Addr} {len cap : Nat} {zs : List Int} (h : SlI w k a len cap zs) (hb : Below B w w') (hB : w.heap.size ≤ B) : SlI w' k a len cap zs := Sl.below h hb hB

/-- a value that is owned, as a slice -/
theorem own_slice {w : World} {base : Nat} {e : TypeId} {size n : Nat} {v : Value} {xs : List Value} (h : w.ownsRow base e size v n xs) : ∃ a c, v = .slice a n c := by
  rcases h.2 with ⟨h1, h2⟩ | ⟨g, c, cur, h1, _⟩
  · exact ⟨none, 0, by rw [h1, h2]⟩
  · exact ⟨_, _, h1⟩

/-- one number in a block of its own -/
theorem new1 (w : World) (k : IntKind) (t : TypeId) {n : Int} : Sl (w.alloc (.cells #[.int k n] t)) (some ⟨w.heap.size, 0, none⟩) 1 1 1 ([n].map (Value.int k)) :=
  ⟨by simp, (fun h => by cases h), Nat.le_refl _, RdI.lit [n] (heap_alloc_new w _) rfl (by simp), oneI _ _⟩

theorem own_eq {w : World} {base : Nat} {e : TypeId} {size n m : Nat} {v : Value} {xs ys : List Value} (h : w.ownsRow base e size v n xs) (hn : n = m) (hx : xs = ys) : w.ownsRow base e size v m ys := hn ▸ hx ▸ h

set_option maxHeartbeats 1000000 in
theorem rwith_no (a : Option Addr) (len cap : Nat) (zs : List Int) (ax n : Int) (w : World) (hno : ax < 0 ∨ (len : Int) ≤ ax) (hlen : len ≤ 1000000) :
    Calls Try.prog 23 #[.slice a len cap, .int .i64 ax, .int .i64 n] w fun e w' => e = .returned (.tuple #[.slice none 0 0, .bool false]) ∧ w = w' := by
  by_cases hn : ax < 0
  · have hd : decide (ax < 0) = true := by simpa using hn
    clear hno
    go_enter Try.func23, Try.ntmps23
    go_wp2
    go_ret2
    exact ⟨rfl, rfl⟩
  · have hd : decide (ax < 0) = false := by simpa using hn
    have hx : (len : Int) ≤ ax := by omega
    clear hno
    go_enter Try.func23, Try.ntmps23
    go_wp2
    go_ret2
    exact ⟨rfl, rfl⟩

set_option maxHeartbeats 1000000 in
theorem rwith_yes (a : Option Addr) (len cap : Nat) (zs : List Int) (ax : Nat) (n : Int) (w : World) (hS : SlI w .i64 a len cap zs) (hax : ax < len) (hlen : len ≤ 1000000) :
    Calls Try.prog 23 #[.slice a len cap, .int .i64 ax, .int .i64 n] w fun e w' => ∃ a' c', e = .returned (.tuple #[.slice a' len c', .bool true]) ∧ NewI w a' c' (zs.set ax n) w' := by
  have hd : decide ((ax : Int) < 0) = false := by simp
  have hd2 : decide ((len : Int) ≤ (ax : Int)) = false := by simp; omega
  have hlt : (ax : Int) < (len : Int) := by omega
  obtain ⟨a1, hS1, hr1⟩ := part_lo hS ax (by omega)
  obtain ⟨a2, hS2, hr2⟩ := part_hi hS (ax + 1) (by omega) ((ax : Int) + 1) (by omega)
  have HS1 := Lib.hid hS1
  have HS2 := Lib.hid hS2
  have HL := Lib.hid hS.len
  clear hS hS1 hS2
  go_enter Try.func23, Try.ntmps23
  go_wp2_with (first
    | (at_builtin
       refine wpl_append elI rfl (.tmp 17) (.tmp 20) rfl w.heap.size (.slice none 0 0) 0 [] rfl (World.ownsRow_nil _ _ _ _) _ _ _ _ rfl HS1.out (by unfold maxLen; omega) (by omega) (Nat.le_refl _) ?_
       intro v1 w1 hown1 hgr1
       have HB1 : Hid (Below w.heap.size w w1) := (Below.refl _ _).grown hgr1 (Nat.le_refl _) (by simp [Value.ownBlock])
       have HO1 := Lib.hid (own_eq hown1 (m := ax) (ys := (zs.take ax).map (Value.int .i64)) (by omega) (by simp))
       obtain ⟨b1, c1, rfl⟩ := own_slice HO1.out
       have hsz : w.heap.size ≤ w1.heap.size := HB1.out.size
       clear hown1 hgr1)
    | (at_builtin
       refine wpl_append elI rfl (.tmp 22) (.tmp 24) rfl w.heap.size (.slice b1 ax c1) ax ((zs.take ax).map (Value.int .i64)) rfl (HO1.out.alloc _) _ _ _ _ rfl (new1 _ _ _) (by unfold maxLen; omega) (by omega) (by simp; omega) ?_
       intro v2 w2 hown2 hgr2
       have HB2 : Hid (Below w.heap.size w w2) := (HB1.out.alloc hsz _).grown hgr2 (by simp; omega) (own_ge HO1.out)
       have HO2 := Lib.hid (own_eq hown2 (m := ax + 1) (ys := (zs.take ax ++ [n]).map (Value.int .i64)) rfl (by simp))
       obtain ⟨b2, c2, rfl⟩ := own_slice HO2.out
       have hsz2 : w.heap.size ≤ w2.heap.size := HB2.out.size
       clear hown2 hgr2)
    | (at_builtin
       refine wpl_append elI rfl (.tmp 26) (.tmp 30) rfl w.heap.size (.slice b2 (ax + 1) c2) (ax + 1) ((zs.take ax ++ [n]).map (Value.int .i64)) rfl HO2.out _ _ _ _ rfl (HS2.out.below HB2.out (Nat.le_refl _)) (by unfold maxLen; omega) (by omega) hsz2 ?_
       intro v3 w3 hown3 hgr3
       have HB3 : Hid (Below w.heap.size w w3) := HB2.out.grown hgr3 hsz2 (own_ge HO2.out)
       have HO4 := Lib.hid (own_eq hown3 (m := len) (ys := (zs.set ax n).map (Value.int .i64)) (by omega) (by rw [← take_drop_set zs ax n (by rw [HL.out]; exact hax)]; simp))
       obtain ⟨b3, c3, rfl⟩ := own_slice HO4.out
       clear hown3 hgr3))
  go_ret2
  exact ⟨b3, c3, rfl, by rw [List.length_set, HL.out]; exact HO4.out, HB3.out⟩

end Go.Proofs.Ytdnoidocmcpeaaa
