/- Walks: layer 7: the same numbers; the axes around one. -/
import Derived.Test.YtdnoidocmcpeaaaShapeG
namespace Go.Proofs.Ytdnoidocmcpeaaa
set_option linter.unusedVariables false
open Go.RowKit

/-- the same numbers, from a place on -/
def eqFrom : List Int → List Int → Bool
  | x :: xs, y :: ys => if x != y then false else eqFrom xs ys
  | _, _ => true

theorem eqFrom_eq : ∀ (xs ys : List Int), xs.length = ys.length → eqFrom xs ys = (xs == ys)
  | [], [], _ => rfl
  | x :: xs, y :: ys, h => by
    simp only [eqFrom]
    have ih := eqFrom_eq xs ys (by simpa using h)
    by_cases hx : x = y
    · subst hx; simp [ih]
    · have : (x != y) = true := by simpa using hx
      simp [hx]

def intsP (xs ys : List Int) : Bool := xs == ys

theorem below_drewN {B : Nat} {a w : World} (h : Below B a w) (n : Nat) : Below B a (w.drewN n) := ⟨h.os, h.tape, h.output, h.size, h.block⟩

set_option maxHeartbeats 1000000 in
theorem rints_c (a : Option Addr) (len cap : Nat) (xs : List Int) (a2 : Option Addr) (len2 cap2 : Nat) (ys : List Int) (w : World) (hl : xs.length = len) (h : RdI w .i64 a xs) (hl2 : ys.length = len2) (h2 : RdI w .i64 a2 ys) :
    Calls Try.prog 19 #[.slice a len cap, .slice a2 len2 cap2] w fun e w' => e = .returned (.bool (intsP xs ys)) ∧ ∃ n, w' = w.drewN n := by
  have hle : len ≤ 140737488351232 := by have := h.le; omega
  have hle2 : len2 ≤ 140737488351232 := by have := h2.le; omega
  by_cases he : len = len2
  · have E : Hid (intsP xs ys = eqFrom (xs.drop 0) (ys.drop 0)) := by
      rw [Hid, List.drop_zero, List.drop_zero, eqFrom_eq xs ys (by omega)]; rfl
    have HL := Lib.hid hl
    have HL2 := Lib.hid hl2
    have H := Lib.hid h
    have H2 := Lib.hid h2
    subst he
    clear hl hl2 h h2
    go_enter Try.func19, Try.ntmps19
    go_wp2
    go_loopw [5] (fun i wr => ∃ (k m : Nat), k ≤ len ∧ i = .int .i64 k ∧ wr = w.drewN m ∧ Hid (intsP xs ys = eqFrom (xs.drop k) (ys.drop k))) (fun i _ => len - (intOf i).toNat)
    case atStart => exact ⟨0, 0, Nat.zero_le _, rfl, rfl, E⟩
    case round =>
      obtain ⟨k, m, hk, rfl, rfl, hE⟩ := hrel
      by_cases hlt : k < len
      · obtain ⟨b, off, x, rfl, hb, hx, hcell⟩ := H.out.get (i := k) (by rw [HL.out]; exact hlt)
        obtain ⟨b2, off2, y, rfl, hb2, hy, hcell2⟩ := H2.out.get (i := k) (by rw [HL2.out]; exact hlt)
        have hk0 : (0 : Int) ≤ (k : Int) := by omega
        have hk1 : (k : Int) < (len : Int) := by omega
        cases hxy : (x != y)
        · have HE : Hid (intsP xs ys = eqFrom (xs.drop (k + 1)) (ys.drop (k + 1))) := by
            rw [Hid, hE.out, dropA_cons hx, dropA_cons hy, eqFrom, hxy]; rfl
          clear hE hx hy
          go_wp2_with fail
          go_quiet (fail)
          go_wp2
          go_roundw
          case rel => exact ⟨k + 1, _, by omega, by go_num, by first | rfl | exact World.drewN_drewN _ _ _, HE⟩
          case measure => simp [intOf]; omega
        · have HE : Hid (intsP xs ys = false) := by
            rw [Hid, hE.out, dropA_cons hx, dropA_cons hy, eqFrom, hxy]; rfl
          clear hE hx hy
          go_wp2_with fail
          go_quiet (fail)
          go_wp2
          go_ret
          exact ⟨by rw [HE.out]; rfl, _, World.drewN_drewN _ _ _⟩
      · have HE : Hid (intsP xs ys = true) := by
          rw [Hid, hE.out, drop_end (by rw [HL.out]; omega)]; rfl
        clear hE
        go_wp2
        go_ret
        exact ⟨by rw [HE.out]; rfl, _, rfl⟩
  · have E : Hid (intsP xs ys = false) := by
      have : xs ≠ ys := fun e => he (by rw [← hl, ← hl2, e])
      simpa [Hid, intsP] using this
    have hne : ((len : Int) != (len2 : Int)) = true := by simp; omega
    clear hl hl2 h h2
    go_enter Try.func19, Try.ntmps19
    go_wp2
    go_ret
    exact ⟨by rw [E.out]; rfl, 0, rfl⟩

end Go.Proofs.Ytdnoidocmcpeaaa
