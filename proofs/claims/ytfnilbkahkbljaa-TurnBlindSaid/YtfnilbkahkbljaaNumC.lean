/- Small numbers: what both sides answer. -/
import Derived.Test.YtfnilbkahkbljaaNumB
namespace Go.Proofs.Ytfnilbkahkbljaa
set_option linter.unusedVariables false
open Go.RowKit

section
variable {P : Program} {tt : List (Nat × AV)} {hh : Hp} {nn dd : Nat} {g : Option (Nat × Bool)} {l : List AInst} {acc : List SD} {K : List SD → St → Prop}
theorem r_conv {k k0 : IntKind} {x : Operand} {n : Int} (v : Int) (hv : k.wrap n = v) (h : RG P (⟨⟨some dd, g, .conv k x⟩, .lit (.int k v), [], [], false⟩ :: acc) l ⟨(dd, .lit (.int k v)) :: tt, hh, nn⟩ K)
    (hg : gOK ⟨tt, hh, nn⟩ g := by first | exact True.intro | rfl) (hx : ev ⟨tt, hh, nn⟩ x = .lit (.int k0 n) := by rfl) : RG P acc (⟨some dd, g, .conv k x⟩ :: l) ⟨tt, hh, nn⟩ K := by subst hv; exact RG.step (q_conv hg hx) h
theorem r_neg {k : IntKind} {x : Operand} {n : Int} (v : Int) (hv : k.wrap (0 - n) = v) (h : RG P (⟨⟨some dd, g, .un .neg x⟩, .lit (.int k v), [], [], false⟩ :: acc) l ⟨(dd, .lit (.int k v)) :: tt, hh, nn⟩ K)
    (hg : gOK ⟨tt, hh, nn⟩ g := by first | exact True.intro | rfl) (hx : ev ⟨tt, hh, nn⟩ x = .lit (.int k n) := by rfl) : RG P acc (⟨some dd, g, .un .neg x⟩ :: l) ⟨tt, hh, nn⟩ K := by subst hv; exact RG.step (q_neg hg hx) h
theorem r_or {k : IntKind} {x y : Operand} {a b : Int} (v : Int) (hv : bits .or k a b = v) (h : RG P (⟨⟨some dd, g, .bin .or x y⟩, .lit (.int k v), [], [], false⟩ :: acc) l ⟨(dd, .lit (.int k v)) :: tt, hh, nn⟩ K)
    (hg : gOK ⟨tt, hh, nn⟩ g := by first | exact True.intro | rfl) (hx : ev ⟨tt, hh, nn⟩ x = .lit (.int k a) := by rfl) (hy : ev ⟨tt, hh, nn⟩ y = .lit (.int k b) := by rfl) : RG P acc (⟨some dd, g, .bin .or x y⟩ :: l) ⟨tt, hh, nn⟩ K := by subst hv; exact RG.step (q_int hg hx hy rfl) h
end

theorem i64_wrap (n : Int) (h0 : -9223372036854775808 ≤ n) (h1 : n ≤ 9223372036854775807) : IntKind.i64.wrap n = n := IntWalk.i64_in _ (by omega)

theorem limbs_cases (X : Nat) : (X = 0 ∧ limbs X = []) ∨ (0 < X ∧ X < 4294967296 ∧ limbs X = [(X : Int)]) ∨ (4294967296 ≤ X ∧ X < 18446744073709551616 ∧ limbs X = [((X % 4294967296 : Nat) : Int), ((X / 4294967296 : Nat) : Int)]) ∨ (18446744073709551616 ≤ X ∧ 2 < (limbs X).length) := by
  by_cases h0 : X = 0
  · left; exact ⟨h0, by rw [h0, limbs_zero]⟩
  rw [limbs_pos h0]
  by_cases h1 : X < 4294967296
  · right; left
    rw [show X / 4294967296 = 0 from by omega, limbs_zero, show X % 4294967296 = X from by omega]
    exact ⟨by omega, h1, rfl⟩
  rw [limbs_pos (show X / 4294967296 ≠ 0 from by omega)]
  by_cases h2 : X < 18446744073709551616
  · right; right; left
    rw [show X / 4294967296 / 4294967296 = 0 from by omega, limbs_zero, show X / 4294967296 % 4294967296 = X / 4294967296 from by omega]
    exact ⟨by omega, h2, rfl⟩
  · right; right; right
    rw [limbs_pos (show X / 4294967296 / 4294967296 ≠ 0 from by omega)]
    exact ⟨by omega, by simp⟩

def smallV (g : Bool) (X : Nat) : Int × Bool := if g then (if X ≤ 9223372036854775808 then (-(X : Int), true) else (0, false)) else (if X ≤ 9223372036854775807 then ((X : Int), true) else (0, false))
theorem smallV_big {g : Bool} {X : Nat} (h : 18446744073709551616 ≤ X) : smallV g X = (0, false) := by
  unfold smallV; split
  · rw [if_neg (by omega)]
  · rw [if_neg (by omega)]
theorem smallV_range (g : Bool) (X : Nat) : -9223372036854775808 ≤ (smallV g X).1 ∧ (smallV g X).1 ≤ 9223372036854775807 := by
  unfold smallV
  split <;> split <;> simp <;> omega

theorem or_add (a b : Nat) (ha : a < 4294967296) (hb : b < 4294967296) : bits .or .u64 (a : Int) ((b * 4294967296 : Nat) : Int) = ((a + 4294967296 * b : Nat) : Int) := by
  have e : bits .or .u64 (a : Int) ((b * 4294967296 : Nat) : Int) = ((a ||| b * 4294967296 : Nat) : Int) := u64_or_nat a (b * 4294967296) (by omega) (by omega)
  have h := Nat.shiftLeft_add_eq_or_of_lt (show a < 2 ^ 32 from ha) b
  rw [Nat.shiftLeft_eq] at h
  rw [e, Nat.or_comm, show b * 4294967296 = b * 2 ^ 32 from rfl, ← h]
  omega

theorem neg_wrap (X : Nat) (hX : X < 18446744073709551616) : IntKind.u64.wrap (0 - (X : Int)) = if X = 0 then 0 else 18446744073709551616 - (X : Int) := by
  simp only [IntKind.wrap, IntKind.bits, IntKind.signed, Bool.false_and, Bool.false_eq_true, if_false]
  split <;> omega
theorem neg_conv (X : Nat) (hX : X ≤ 9223372036854775808) : IntKind.i64.wrap (if X = 0 then 0 else 18446744073709551616 - (X : Int)) = -(X : Int) := by
  by_cases h : X = 0
  · rw [if_pos h]; subst h; decide
  · rw [if_neg h]
    simp only [IntKind.wrap, IntKind.bits, IntKind.signed, Bool.true_and]
    split
    · omega
    · rename_i hh
      exact absurd (decide_eq_true (by omega)) hh

set_option maxHeartbeats 1000000 in
theorem wSmall_a (g : Bool) (m : List Int) (hm : limOK m) (lm : m.length ≤ maxB) : ACalls Try.prog 143 [.agg (intV g m)] (.tup [.lit (.int .i64 (smallV (sgnV g (valL m)) (valL m)).1), .lit (.bool (smallV (sgnV g (valL m)) (valL m)).2)]) := by
  have c1 := wnorm_a g m lm
  rw [trimI_limbs hm, sgn_limbs] at c1
  generalize valL m = X at c1 ⊢
  generalize sgnV g X = G at c1 ⊢
  have lx := intsA_len .u32 (limbs X)
  have hcs := limbs_cases X
  have hval := valL_limbs X
  have hlim := limbs_ok X
  refine acalls_of code_whole_Small (by simp [fn_whole_Small]) fun C hC => ?_
  by_cases h2 : 2 < (limbs X).length
  · rw [smallV_big (by rcases hcs with ⟨_, e⟩ | ⟨_, _, e⟩ | ⟨_, _, e⟩ | ⟨e, _⟩ <;> first | exact e | (rw [e] at h2; simp at h2))]
    refine walk2 ?_
    exact fin
  · have hX : X < 18446744073709551616 := by rcases hcs with ⟨e, _⟩ | ⟨_, e, _⟩ | ⟨_, e, _⟩ | ⟨_, e⟩ <;> omega
    clear hcs
    generalize limbs X = ls at c1 lx hval hlim h2
    refine walk2 ?_
    refine aw_loopB [1, 14, 15] [0] (fun k : Nat => [(4, .lit (.int .u64 ((valL (ls.take k) : Nat) : Int))), (16, .lit (.int .i64 k))]) (fun _ => []) 1 (fun k => k ≤ ls.length) (fun k => ls.length - k) 0 (Nat.zero_le _) ?_
    rintro k hk
    dsimp only [List.cons_append, List.nil_append]
    by_cases hlt : k < ls.length
    · obtain ⟨v, hv⟩ : ∃ v, ls[k]? = some v := ⟨_, List.getElem?_eq_getElem hlt⟩
      have hvr := hlim v (List.mem_of_getElem? hv)
      have hvk : (intsA .u32 ls)[((k : Nat) : Int).toNat]? = some [.lit (.int .u32 v)] := by rw [Int.toNat_natCast]; exact int_at hv
      obtain ⟨w, rfl⟩ : ∃ w : Nat, v = (w : Int) := ⟨v.toNat, by omega⟩
      refine walk2 ?_
      refine aw_reg ?_
      refine rrun2 ?_
      have hk2 : k = 0 ∨ k = 1 := by omega
      rcases hk2 with rfl | rfl
      · have e1 : valL (ls.take 1) = w := by
          rw [takeA_snoc hv]; simp [valL]
        refine r_shl (w : Int) ?_ (hv := ?_)
        · refine rrun2 ?_
          refine rg_nil ⟨rfl, ?_⟩
          refine walk2 ?_
          have e3 : bits .or .u64 ((valL (ls.take 0) : Nat) : Int) (w : Int) = (w : Int) := by
            have := u64_or_nat 0 w (by omega) (by omega)
            rw [Nat.zero_or] at this
            exact this
          exact ⟨1, by omega, by omega, wkR hC.m [] (by
            rw [e1]
            conv => rhs; rw [← e3]
            rfl)⟩
        · show IntKind.u64.wrap ((w : Int) * 1) = w
          rw [Int.mul_one]; exact u64_nat w (by omega)
      · obtain ⟨v0, hv0⟩ : ∃ v0, ls[0]? = some v0 := ⟨_, List.getElem?_eq_getElem (by omega)⟩
        have hv0r := hlim v0 (List.mem_of_getElem? hv0)
        obtain ⟨w0, rfl⟩ : ∃ w : Nat, v0 = (w : Int) := ⟨v0.toNat, by omega⟩
        have e0 : valL (ls.take 1) = w0 := by
          rw [takeA_snoc hv0]; simp [valL]
        have e1 : valL (ls.take 2) = w0 + 4294967296 * w := by
          rw [takeA_snoc hv, takeA_snoc hv0]; simp [valL]
        have e2 := or_add w0 w (by omega) (by omega)
        rw [e0]
        refine r_shl ((w * 4294967296 : Nat) : Int) ?_ (hv := ?_)
        · refine rrun2 ?_
          refine rg_nil ⟨rfl, ?_⟩
          refine walk2 ?_
          exact ⟨2, by omega, by omega, wkR hC.m [] (by rw [e1, ← e2]; rfl)⟩
        · show IntKind.u64.wrap ((w : Int) * 4294967296) = _
          rw [Int.natCast_mul]; exact u64_nat (w * 4294967296) (by omega)
    · rw [show ls.take k = ls from List.take_of_length_le (by omega), hval]
      cases G
      · by_cases hs : X ≤ 9223372036854775807
        · rw [show smallV false X = ((X : Int), true) from by simp [smallV, hs]]
          refine walk2 ?_
          exact fin
        · rw [show smallV false X = (0, false) from by simp [smallV, hs]]
          refine walk2 ?_
          exact fin
      · by_cases hs : X ≤ 9223372036854775808
        · rw [show smallV true X = (-(X : Int), true) from by simp [smallV, hs]]
          have e1 := neg_wrap X hX
          have e2 := neg_conv X hs
          rw [← e2]
          refine walk2 ?_
          refine aw_reg ?_
          refine rrun2 ?_
          refine r_neg _ e1 ?_
          refine rrun2 ?_
          refine rg_nil ⟨rfl, ?_⟩
          refine walk2 ?_
          exact fin
        · rw [show smallV true X = (0, false) from by simp [smallV, hs]]
          refine walk2 ?_
          exact fin
end Go.Proofs.Ytfnilbkahkbljaa
