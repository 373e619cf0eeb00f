/- Machine numbers, below nothing too, as the program writes them. -/
import Derived.Test.YtmbigpjokpdnkaaNumB
import Derived.Test.YtmbigpjokpdnkaaAbsF
namespace Go.Proofs.Ytmbigpjokpdnkaa
set_option linter.unusedVariables false
open Go.RowKit

theorem digI_ok {z : Int} (h0 : -9223372036854775808 ≤ z) (h1 : z ≤ 9223372036854775807) : limOK (digI z) := by
  intro y hy
  simp only [digI, List.mem_cons, List.not_mem_nil, or_false] at hy
  rcases hy with h | h <;> omega
theorem digI_val (z : Int) : valL (digI z) = z.natAbs := by
  simp only [digI, valL]; omega
theorem digI_limbs {z : Int} (h0 : -9223372036854775808 ≤ z) (h1 : z ≤ 9223372036854775807) : trimI (digI z) = limbs z.natAbs := by
  rw [trimI_limbs (digI_ok h0 h1), digI_val]
theorem sgn_dec2 (z : Int) : sgn (decide (z < 0)) (limbs z.natAbs) = decide (z < 0) := by rw [sgn_limbs, sgn_dec]

set_option maxRecDepth 10000 in
theorem wofG_a (z : Int) (h0 : -9223372036854775808 ≤ z) (h1 : z ≤ 9223372036854775807) : ACalls Try.prog 60 [.lit (.int .i64 z)] (.agg (intV (decide (z < 0)) (limbs z.natAbs))) := by
  by_cases hn : 0 ≤ z
  · have c := wof_a z hn h1
    rw [digI_limbs h0 h1, show sgn false (limbs z.natAbs) = decide (z < 0) from by rw [sgn_limbs, sgnV_false]; simp; omega] at c
    exact c
  · have hd : (digI z).length ≤ maxB := by simp [digI, maxB]
    have hq : z.natAbs / 4294967296 < 4294967296 := by omega
    have e0 : IntKind.u64.wrap (0 - IntKind.u64.wrap z) = (z.natAbs : Int) := by
      have : IntKind.u64.wrap z = z + 18446744073709551616 := by
        simp only [IntKind.wrap, IntKind.bits, IntKind.signed]
        simp; omega
      rw [this]
      simp only [IntKind.wrap, IntKind.bits, IntKind.signed]
      simp; omega
    have e1 : IntKind.u32.wrap (IntKind.u64.wrap (0 - IntKind.u64.wrap z)) = (z.natAbs % 4294967296 : Nat) := by rw [e0, u32_wrap]
    have e2 : (IntKind.u64.wrap (0 - IntKind.u64.wrap z)).fdiv (2 ^ (min (32 : Int).toNat IntKind.u64.bits)) = (z.natAbs / 4294967296 : Nat) := by
      rw [e0, show (2 : Int) ^ (min (32 : Int).toNat IntKind.u64.bits) = ((4294967296 : Nat) : Int) from rfl, Int.fdiv_eq_ediv_of_nonneg _ (by omega)]; rfl
    have e3 : IntKind.u32.wrap ((z.natAbs / 4294967296 : Nat) : Int) = (z.natAbs / 4294967296 : Nat) := by rw [u32_wrap, Nat.mod_eq_of_lt hq]
    have c1 := norm_a (digI z) hd
    have c2 := signed_a true (trimI (digI z))
    rw [digI_limbs h0 h1] at c1 c2
    rw [sgn_limbs, sgnV_true (by omega)] at c2
    rw [show decide (z < 0) = true from by simp; omega]
    have k1 : True → ACalls Try.prog 66 [.sl 1 (intsA .u32 (digI z))] (.sl 1 (intsA .u32 (limbs z.natAbs))) := fun _ => c1
    clear c1
    refine acalls_of code_whole_Of (by simp [fn_whole_Of]) fun C hC => ?_
    refine walk3 ?_
    refine aw_reg (rrun3 ?_)
    refine r_shr (z.natAbs / 4294967296 : Nat) ?_ (hv := e2)
    refine rrun3 ?_
    refine r_callF 1 [1] (avs' := [.sl 1 (intsA .u32 (digI z))]) (k1 trivial) ?_ (hs := SubL.cons ?_ SubL.nil)
    · refine rrun3 ?_
      refine rg_nil ⟨rfl, ?_⟩
      refine walk3 ?_
      exact fin
    · rw [e1]; exact Sub.refl _

set_option maxRecDepth 10000 in
theorem rofG_a (z : Int) (h0 : -9223372036854775808 ≤ z) (h1 : z ≤ 9223372036854775807) : ACalls Try.prog 49 [.lit (.int .i64 z)] (.agg (numV (ofZ z))) := by
  have hB : maxB = 1000000000 := rfl
  have hll : (limbs z.natAbs).length ≤ 2 := by
    rw [← digI_limbs h0 h1]
    have k1 := trimI_len (digI z)
    have hd := digI_len z
    omega
  have c1 := wofG_a z h0 h1
  have c2 := whole_a (decide (z < 0)) (limbs z.natAbs) (by omega) (by rw [trimI_self]; omega)
  rw [show oneN (decide (z < 0)) (limbs z.natAbs) = ofZ z from by simp only [oneN, ofZ, trimI_self, sgn_dec2]] at c2
  refine acalls_of code_ratio_Of (by simp [fn_ratio_Of]) fun C hC => ?_
  refine walk3 ?_
  exact fin

set_option maxRecDepth 10000 in
theorem arrIntG_a (z : Int) (h0 : -9223372036854775808 ≤ z) (h1 : z ≤ 9223372036854775807) : ACalls Try.prog 34 [.lit (.int .i64 z)] (.agg (cellV (intC z))) := by
  have c := rofG_a z h0 h1
  refine acalls_of code_array_Int (by simp [fn_array_Int]) fun C hC => ?_
  refine walk3 ?_
  exact ⟨_, _, rfl, rfl, Sub.agg (SubL.cons (Sub.refl _) (SubL.cons (Sub.refl _) (SubL.cons (Sub.refl _) (SubL.cons (Sub.refl _) (SubL.cons (Sub.refl _) (SubL.cons (Sub.refl _) (SubL.cons (Sub.nil _) SubL.nil)))))))⟩
end Go.Proofs.Ytmbigpjokpdnkaa
