/- Quotients, divisors, ratios of the reference: what they answer. -/
import Derived.Test.YtmbigpjokpdnkaaNatV
import Derived.Test.YtmbigpjokpdnkaaSameP
namespace Go.Proofs.Ytmbigpjokpdnkaa
set_option linter.unusedVariables false
open Go.RowKit

theorem limbs_len_shift {Y : Nat} (h : Y ≠ 0) : (limbs (4294967296 * Y)).length = (limbs Y).length + 1 := by
  rw [limbs_pos (n := 4294967296 * Y) (by omega), show 4294967296 * Y / 4294967296 = Y from by omega]; rfl
theorem limbs_len_le {n k : Nat} (ys : List Int) (h : n ≤ k) (hk : (limbs k).length ≤ 40) : (limbs n).length ≤ 40 := Nat.le_trans (limbs_len_mono h) hk

theorem gcdF_ne : ∀ (k x y : Nat), (x ≠ 0 ∨ (y ≠ 0 ∧ k ≠ 0)) → gcdF k x y ≠ 0
  | 0, x, y, h => by simp only [gcdF]; rcases h with h | h; exact h; exact absurd rfl h.2
  | k + 1, x, y, h => by
    simp only [gcdF]
    split
    · rename_i hy
      rcases h with h | h
      · exact h
      · exact absurd hy h.1
    · rename_i hy
      exact gcdF_ne k y _ (.inl hy)
theorem gcdF_le : ∀ (k x y M : Nat), x ≤ M → y ≤ M → gcdF k x y ≤ M
  | 0, x, y, M, hx, hy => by simpa [gcdF] using hx
  | k + 1, x, y, M, hx, hy => by
    simp only [gcdF]
    split
    · exact hx
    · rename_i h0
      have := (dm_lt (limbs x) h0).1
      exact gcdF_le k y _ M hy (by omega)

theorem numP_self (n : Num) : numP n n = true := (numP_iff n n).2 rfl

end Go.Proofs.Ytmbigpjokpdnkaa
