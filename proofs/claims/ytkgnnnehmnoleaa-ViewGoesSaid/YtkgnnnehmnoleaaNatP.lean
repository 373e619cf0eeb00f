/- Whole numbers: leading zeros away; whole numbers and ratios made of them. -/
import Derived.Test.YtkgnnnehmnoleaaHideQ
import Derived.Test.YtkgnnnehmnoleaaAbsT
namespace Go.Proofs.Ytkgnnnehmnoleaa
set_option linter.unusedVariables false
open Go.RowKit

def trimLen (xs : List Int) : Nat → Nat
  | 0 => 0
  | k + 1 => if xs[k]? = some 0 then trimLen xs k else k + 1
def trimI (xs : List Int) : List Int := xs.take (trimLen xs xs.length)
theorem trimLen_le (xs : List Int) : ∀ k, trimLen xs k ≤ k
  | 0 => Nat.le_refl _
  | k + 1 => by
    simp only [trimLen]
    split
    · exact Nat.le_succ_of_le (trimLen_le xs k)
    · exact Nat.le_refl _
theorem trimI_len (xs : List Int) : (trimI xs).length ≤ xs.length := by simp [trimI]; omega

theorem trim_a (xs : List Int) : ACalls Try.prog 54 [.sl 1 (intsA .u32 xs)] (.sl 1 (intsA .u32 (trimI xs))) := by
  have lx := intsA_len .u32 xs
  refine acalls_of code_nat_trim (by simp [fn_nat_trim]) fun C hC => ?_
  refine aw_know 0 ((intsA .u32 xs).length ≤ 281474976710656) (fun E w v h => know_sl h) fun hx => ?_
  refine walk ?_
  refine aw_loop (X := Nat) (fun k => ⟨[(0, .sl 1 (intsA .u32 xs)), (2, .lit (.slice none 0 0)), (3, .lit (.int .i64 k))], [], 0⟩) (fun k => k ≤ xs.length ∧ trimLen xs xs.length = trimLen xs k) (fun k => k) xs.length (wk hC [] [0, 2, 3] 0) ⟨Nat.le_refl _, rfl⟩ ?_
  rintro k ⟨hk, hE⟩
  have fin : trimLen xs xs.length = k → intsA .u32 (trimI xs) = ((intsA .u32 xs).drop 0).take (k - 0) := fun he => by
    rw [trimI, he, List.drop_zero, Nat.sub_zero, intsA, intsA, List.map_take]
  cases k with
  | zero =>
    refine walk ?_
    refine aw_reg (rrun ?_)
    refine r_slice3 0 0 ?_ ?_ ?_
    · omega
    · omega
    refine rrun ?_
    refine rg_nil ⟨rfl, ?_⟩
    refine walk ?_
    rw [fin hE]
    exact ⟨_, _, rfl, rfl, Sub.refl _⟩
  | succ k =>
    obtain ⟨x, hx'⟩ : ∃ x, xs[k]? = some x := ⟨_, List.getElem?_eq_getElem (by omega)⟩
    have hxk : (intsA .u32 xs)[(((k + 1 : Nat) : Int) - 1).toNat]? = some [.lit (.int .u32 x)] := by
      rw [show (((k + 1 : Nat) : Int) - 1).toNat = k from by omega]; exact int_at hx'
    by_cases h0 : x = 0
    · rw [trimLen, if_pos (by rw [hx', h0])] at hE
      refine walk ?_
      exact ⟨k, by omega, ⟨by omega, hE⟩, wk hC [] [0, 2, 3] 0 (by rw [show ((k : Nat) : Int) = ((k + 1 : Nat) : Int) - 1 from by omega]; rfl)⟩
    · rw [trimLen, if_neg (by rw [hx']; simpa using h0)] at hE
      refine walk ?_
      refine aw_reg (rrun ?_)
      refine r_slice3 0 (k + 1) ?_ ?_ ?_
      · omega
      · omega
      refine rrun ?_
      refine rg_nil ⟨rfl, ?_⟩
      refine walk ?_
      rw [fin hE]
      exact ⟨_, _, rfl, rfl, Sub.refl _⟩

theorem norm_a (xs : List Int) (hb : xs.length ≤ maxB) : ACalls Try.prog 53 [.sl 1 (intsA .u32 xs)] (.sl 1 (intsA .u32 (trimI xs))) := by
  have hB : maxB = 1000000000 := rfl
  have hl := trimI_len xs
  have lx := intsA_len .u32 (trimI xs)
  refine acalls_of code_nat_Norm (by simp [fn_nat_Norm]) fun C hC => ?_
  refine walk ?_
  refine aw_reg (rrun ?_)
  refine r_call (trim_a xs) (rrun ?_)
  refine rg_nil ⟨rfl, ?_⟩
  refine walk ?_
  refine aw_reg (rrun ?_)
  refine r_make ?_ ?_ ?_ ?_
  · omega
  · omega
  · omega
  refine rrun ?_
  refine rg_nil ⟨rfl, ?_⟩
  refine walk ?_
  refine aw_reg (rrun ?_)
  refine r_copy ?_ ?_
  · simp [intsA]
  refine rrun ?_
  refine rg_nil ⟨rfl, ?_⟩
  refine walk ?_
  refine ⟨_, _, rfl, rfl, ?_⟩
  have e : intsA .u32 (trimI xs) ++ (List.replicate (((trimI xs).length : Nat) : Int).toNat ([.int .u32 0].map AV.lit)).drop (intsA .u32 (trimI xs)).length = intsA .u32 (trimI xs) := by simp [intsA]
  rw [e]
  exact Sub.refl _
end Go.Proofs.Ytkgnnnehmnoleaa
