/- Numbers made of whole numbers; cells and arrays made of these. -/
import Derived.Test.YtfnilbkahkbljaaNatP
import Derived.Test.YtfnilbkahkbljaaHideP
namespace Go.Proofs.Ytfnilbkahkbljaa
set_option linter.unusedVariables false
open Go.RowKit

/-- a whole number's cells -/
def intV (n : Bool) (m : List Int) : List AV := [.lit (.bool n), .sl 1 (intsA .u32 m)]
def sgn (n : Bool) (m : List Int) : Bool := if m.length = 0 then false else n

theorem signed_a (n : Bool) (m : List Int) : ACalls Try.prog 159 [.lit (.bool n), .sl 1 (intsA .u32 m)] (.agg (intV (sgn n m) m)) := by
  have lm := intsA_len .u32 m
  refine acalls_of code_whole_signed (by simp [fn_whole_signed]) fun C hC => ?_
  by_cases h : m.length = 0
  · have e : m = [] := List.eq_nil_of_length_eq_zero h
    subst e
    refine walk ?_
    exact ⟨_, _, rfl, rfl, Sub.agg (SubL.cons (Sub.refl _) (SubL.cons (Sub.nil _) SubL.nil))⟩
  · rw [sgn, if_neg h]
    refine walk ?_
    exact ⟨_, _, rfl, rfl, Sub.refl _⟩

theorem wnorm_a (n : Bool) (m : List Int) (hb : m.length ≤ maxB) : ACalls Try.prog 151 [.agg (intV n m)] (.agg (intV (sgn n (trimI m)) (trimI m))) := by
  refine acalls_of code_whole_Norm (by simp [fn_whole_Norm]) fun C hC => ?_
  refine walk ?_
  refine aw_reg (rrun ?_)
  refine r_call (norm_a m hb) (rrun ?_)
  refine r_call (signed_a n (trimI m)) (rrun ?_)
  refine rg_nil ⟨rfl, ?_⟩
  refine walk ?_
  exact ⟨_, _, rfl, rfl, Sub.refl _⟩

/-- a machine number's digits -/
def digI (z : Int) : List Int := [(z.natAbs % 4294967296 : Nat), (z.natAbs / 4294967296 : Nat)]

theorem u32_wrap (n : Nat) : IntKind.u32.wrap (n : Int) = (n % 4294967296 : Nat) := by
  simp only [IntKind.wrap, IntKind.bits, IntKind.signed]
  simp

/-- a ratio whose part below is one -/
def oneN (n : Bool) (m : List Int) : Num := ⟨sgn n (trimI m), trimI m, [1]⟩

/-- a machine number as a ratio -/
def ofI (z : Int) : Num := oneN (sgn false (trimI (digI z))) (trimI (digI z))
theorem digI_len (z : Int) : (digI z).length = 2 := rfl

theorem own_a (c : Cell) (h1 : c.n.top.length ≤ maxB) (h2 : c.n.bot.length ≤ maxB) (h3 : c.ins.length ≤ maxB) : ACalls Try.prog 107 [.agg (cellV c)] (.agg (cellV c)) := by
  have hB : maxB = 1000000000 := rfl
  have ltop := intsA_len .u32 c.n.top
  have lbot := intsA_len .u32 c.n.bot
  have lin := ins_len c
  refine acalls_of code_array_own (by simp [fn_array_own]) fun C hC => ?_
  refine walk ?_
  refine aw_reg (rrun ?_)
  refine r_call (cloneU32_a (intsA .u32 c.n.top) (by omega)) (rrun ?_)
  refine r_call (cloneU32_a (intsA .u32 c.n.bot) (by omega)) (rrun ?_)
  refine r_call (cloneArr_a (c.ins.map arrR) (by omega)) (rrun ?_)
  refine rg_nil ⟨rfl, ?_⟩
  refine walk ?_
  exact ⟨_, _, rfl, rfl, Sub.refl _⟩

/-- one number under a label -/
def oneA (z : Int) (l : Nat) : Arr := .mk 0 [] [.mk l 0 (ofI z) 0 []]

theorem oneA_ok (z : Int) (l : Nat) (hl : l < 18446744073709551616) : okA (oneA z l) := by
  have k1 := trimI_len (digI z)
  have k2 := trimI_len (trimI (digI z))
  have hd := digI_len z
  have hB : maxB = 1000000000 := rfl
  refine ⟨by omega, by simp [maxB], by simp [maxB], ⟨hl, ?_, by simp [ofI, oneN, maxB], by simp [maxB], trivial⟩, trivial⟩
  simp only [ofI, oneN]
  omega

end Go.Proofs.Ytfnilbkahkbljaa
