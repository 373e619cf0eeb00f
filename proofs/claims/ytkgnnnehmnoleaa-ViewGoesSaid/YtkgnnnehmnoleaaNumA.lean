/- Numbers made of whole numbers; cells and arrays made of these. -/
import Derived.Test.YtkgnnnehmnoleaaNatP
import Derived.Test.YtkgnnnehmnoleaaHideP
namespace Go.Proofs.Ytkgnnnehmnoleaa
set_option linter.unusedVariables false
open Go.RowKit

/-- a whole number's cells -/
def intV (n : Bool) (m : List Int) : List AV := [.lit (.bool n), .sl 1 (intsA .u32 m)]
def sgn (n : Bool) (m : List Int) : Bool := if m.length = 0 then false else n

theorem signed_a (n : Bool) (m : List Int) : ACalls Try.prog 52 [.lit (.bool n), .sl 1 (intsA .u32 m)] (.agg (intV (sgn n m) m)) := by
  have lm := intsA_len .u32 m
  refine acalls_of code_whole_signed (by simp [fn_whole_signed]) fun C hC => ?_
  by_cases h : m.length = 0
  · have e : m = [] := List.eq_nil_of_length_eq_zero h
    subst e
    refine walk ?_
    exact ⟨_, _, rfl, rfl, Sub.agg (SubL.cons (Sub.refl _) (SubL.cons (Sub.nil _) SubL.nil))⟩
  · rw [sgn, if_neg h]
    refine walk ?_
    exact ⟨_, _, rfl, rfl, Sub.refl _⟩

theorem wnorm_a (n : Bool) (m : List Int) (hb : m.length ≤ maxB) : ACalls Try.prog 51 [.agg (intV n m)] (.agg (intV (sgn n (trimI m)) (trimI m))) := by
  refine acalls_of code_whole_Norm (by simp [fn_whole_Norm]) fun C hC => ?_
  refine walk ?_
  refine aw_reg (rrun ?_)
  refine r_call (norm_a m hb) (rrun ?_)
  refine r_call (signed_a n (trimI m)) (rrun ?_)
  refine rg_nil ⟨rfl, ?_⟩
  refine walk ?_
  exact ⟨_, _, rfl, rfl, Sub.refl _⟩

/-- a machine number's digits -/
def digI (z : Int) : List Int := [(z.natAbs % 4294967296 : Nat), (z.natAbs / 4294967296 : Nat)]

theorem u32_wrap (n : Nat) : IntKind.u32.wrap (n : Int) = (n % 4294967296 : Nat) := by
  simp only [IntKind.wrap, IntKind.bits, IntKind.signed]
  simp

theorem wof_a (z : Int) (h0 : 0 ≤ z) (h1 : z ≤ 9223372036854775807) : ACalls Try.prog 49 [.lit (.int .i64 z)] (.agg (intV (sgn false (trimI (digI z))) (trimI (digI z)))) := by
  have hd : (digI z).length ≤ maxB := by simp [digI, maxB]
  have hq : z.natAbs / 4294967296 < 4294967296 := by omega
  have e0 : IntKind.u64.wrap z = (z.natAbs : Int) := by
    rw [IntWalk.u64_in _ (by omega)]; omega
  have e1 : IntKind.u32.wrap (IntKind.u64.wrap z) = (z.natAbs % 4294967296 : Nat) := by rw [e0, u32_wrap]
  have e2 : (IntKind.u64.wrap z).fdiv (2 ^ (min (32 : Int).toNat IntKind.u64.bits)) = (z.natAbs / 4294967296 : Nat) := by
    rw [e0, show (2 : Int) ^ (min (32 : Int).toNat IntKind.u64.bits) = ((4294967296 : Nat) : Int) from rfl, Int.fdiv_eq_ediv_of_nonneg _ (by omega)]; rfl
  have e3 : IntKind.u32.wrap ((z.natAbs / 4294967296 : Nat) : Int) = (z.natAbs / 4294967296 : Nat) := by rw [u32_wrap, Nat.mod_eq_of_lt hq]
  refine acalls_of code_whole_Of (by simp [fn_whole_Of]) fun C hC => ?_
  refine walk ?_
  refine aw_reg (rrun ?_)
  refine r_shr (z.natAbs / 4294967296 : Nat) ?_ (hv := e2)
  refine rrun ?_
  refine r_rowlit ?_
  refine r_callF 1 [1] (avs' := [.sl 1 (intsA .u32 (digI z))]) (norm_a (digI z) hd) ?_ (hs := SubL.cons ?_ SubL.nil)
  · refine rrun ?_
    refine r_call (signed_a false (trimI (digI z))) (rrun ?_)
    refine rg_nil ⟨rfl, ?_⟩
    refine walk ?_
    exact ⟨_, _, rfl, rfl, Sub.refl _⟩
  · rw [e1, e3]; exact Sub.refl _

/-- a ratio whose part below is one -/
def oneN (n : Bool) (m : List Int) : Num := ⟨sgn n (trimI m), trimI m, [1]⟩

theorem whole_a (n : Bool) (m : List Int) (hb : m.length ≤ maxB) (h32 : (trimI m).length ≤ 32) : ACalls Try.prog 48 [.agg (intV n m)] (.agg (numV (oneN n m))) := by
  have lm := intsA_len .u32 (trimI m)
  refine acalls_of code_ratio_Whole (by simp [fn_ratio_Whole]) fun C hC => ?_
  refine walk ?_
  refine aw_reg (rrun ?_)
  refine r_call (wnorm_a n m hb) (rrun ?_)
  refine rg_nil ⟨rfl, ?_⟩
  refine walk ?_
  refine aw_reg (rrun ?_)
  refine r_rowlit ?_
  refine rrun ?_
  refine rg_nil ⟨rfl, ?_⟩
  refine walk ?_
  exact ⟨_, _, rfl, rfl, Sub.refl _⟩

/-- a machine number as a ratio -/
def ofI (z : Int) : Num := oneN (sgn false (trimI (digI z))) (trimI (digI z))
theorem digI_len (z : Int) : (digI z).length = 2 := rfl

theorem rof_a (z : Int) (h0 : 0 ≤ z) (h1 : z ≤ 9223372036854775807) : ACalls Try.prog 45 [.lit (.int .i64 z)] (.agg (numV (ofI z))) := by
  have k1 := trimI_len (digI z)
  have k2 := trimI_len (trimI (digI z))
  have hd := digI_len z
  have hB : maxB = 1000000000 := rfl
  refine acalls_of code_ratio_Of (by simp [fn_ratio_Of]) fun C hC => ?_
  refine walk ?_
  refine aw_reg (rrun ?_)
  refine r_call (wof_a z h0 h1) (rrun ?_)
  refine r_call (whole_a (sgn false (trimI (digI z))) (trimI (digI z)) (by omega) (by omega)) (rrun ?_)
  refine rg_nil ⟨rfl, ?_⟩
  refine walk ?_
  exact ⟨_, _, rfl, rfl, Sub.refl _⟩

theorem arrInt_a (z : Int) (h0 : 0 ≤ z) (h1 : z ≤ 9223372036854775807) : ACalls Try.prog 36 [.lit (.int .i64 z)] (.agg (cellV (.mk 0 0 (ofI z) 0 []))) := by
  refine acalls_of code_array_Int (by simp [fn_array_Int]) fun C hC => ?_
  refine walk ?_
  refine aw_reg (rrun ?_)
  refine r_call (rof_a z h0 h1) (rrun ?_)
  refine rg_nil ⟨rfl, ?_⟩
  refine walk ?_
  exact ⟨_, _, rfl, rfl, Sub.agg (SubL.cons (Sub.refl _) (SubL.cons (Sub.refl _) (SubL.cons (Sub.refl _) (SubL.cons (Sub.refl _) (SubL.cons (Sub.refl _) (SubL.cons (Sub.refl _) (SubL.cons (Sub.nil _) SubL.nil)))))))⟩

theorem own_a (c : Cell) (h1 : c.n.top.length ≤ maxB) (h2 : c.n.bot.length ≤ maxB) (h3 : c.ins.length ≤ maxB) : ACalls Try.prog 46 [.agg (cellV c)] (.agg (cellV c)) := by
  have hB : maxB = 1000000000 := rfl
  have ltop := intsA_len .u32 c.n.top
  have lbot := intsA_len .u32 c.n.bot
  have lin := ins_len c
  refine acalls_of code_array_own (by simp [fn_array_own]) fun C hC => ?_
  refine walk ?_
  refine aw_reg (rrun ?_)
  refine r_call (cloneU32_a (intsA .u32 c.n.top) (by omega)) (rrun ?_)
  refine r_call (cloneU32_a (intsA .u32 c.n.bot) (by omega)) (rrun ?_)
  refine r_call (cloneArr_a (c.ins.map arrR) (by omega)) (rrun ?_)
  refine rg_nil ⟨rfl, ?_⟩
  refine walk ?_
  exact ⟨_, _, rfl, rfl, Sub.refl _⟩

theorem scalar_a (c : Cell) (h1 : c.n.top.length ≤ maxB) (h2 : c.n.bot.length ≤ maxB) (h3 : c.ins.length ≤ maxB) : ACalls Try.prog 37 [.agg (cellV c)] (.agg (arrV (.mk 0 [] [c]))) := by
  have e : [c].map cellR = [cellV c] := by simp [cellR_eq]
  refine acalls_of code_array_Scalar (by simp [fn_array_Scalar]) fun C hC => ?_
  refine walk ?_
  refine aw_reg (rrun ?_)
  refine r_call (own_a c h1 h2 h3) (rrun ?_)
  refine r_rowlit ?_
  refine rrun ?_
  refine rg_nil ⟨rfl, ?_⟩
  refine walk ?_
  refine ⟨_, _, rfl, rfl, ?_⟩
  simp only [arrV, Arr.s, Arr.shape, Arr.cells]
  rw [e]
  exact Sub.agg (SubL.cons (Sub.refl _) (SubL.cons (Sub.nil _) (SubL.cons (Sub.refl _) SubL.nil)))

/-- one number under a label -/
def oneA (z : Int) (l : Nat) : Arr := .mk 0 [] [.mk l 0 (ofI z) 0 []]

theorem one_a (z : Int) (l : Nat) (h0 : 0 ≤ z) (h1 : z ≤ 9223372036854775807) : ACalls Try.prog 23 [.lit (.int .i64 z), labV l] (.agg (arrV (oneA z l))) := by
  have k1 := trimI_len (digI z)
  have k2 := trimI_len (trimI (digI z))
  have hd := digI_len z
  have hB : maxB = 1000000000 := rfl
  refine acalls_of code_scrimlaw09_one (by simp [fn_scrimlaw09_one]) fun C hC => ?_
  refine walk ?_
  refine aw_reg (rrun ?_)
  refine r_call (arrInt_a z h0 h1) (rrun ?_)
  refine rg_nil ⟨rfl, ?_⟩
  refine walk ?_
  refine aw_reg (rrun ?_)
  refine r_call (scalar_a (.mk l 0 (ofI z) 0 []) (by simp only [Cell.n, ofI, oneN]; omega) (by simp [Cell.n, ofI, oneN, maxB]) (by simp [Cell.ins, maxB])) (rrun ?_)
  refine rg_nil ⟨rfl, ?_⟩
  refine walk ?_
  exact ⟨_, _, rfl, rfl, Sub.refl _⟩

theorem oneA_ok (z : Int) (l : Nat) (hl : l < 18446744073709551616) : okA (oneA z l) := by
  have k1 := trimI_len (digI z)
  have k2 := trimI_len (trimI (digI z))
  have hd := digI_len z
  have hB : maxB = 1000000000 := rfl
  refine ⟨by omega, by simp [maxB], by simp [maxB], ⟨hl, ?_, by simp [ofI, oneN, maxB], by simp [maxB], trivial⟩, trivial⟩
  simp only [ofI, oneN]
  omega

theorem awake_a : ACalls Try.prog 9 [] (.lit (.bool true)) := by
  have a1 := viewAlike_a (oneA 5 2) (oneA 6 3) 1 (by omega) (oneA_ok _ _ (by omega)) (oneA_ok _ _ (by omega))
  have a2 := viewAlike_a (oneA 5 2) (oneA 6 3) 3 (by omega) (oneA_ok _ _ (by omega)) (oneA_ok _ _ (by omega))
  have a3 := viewAlike_a (oneA 5 0) (oneA 6 0) 0 (by omega) (oneA_ok _ _ (by omega)) (oneA_ok _ _ (by omega))
  rw [show alikeA 1 (oneA 5 2) (oneA 6 3) = true from by decide +kernel] at a1
  rw [show alikeA 3 (oneA 5 2) (oneA 6 3) = false from by decide +kernel] at a2
  rw [show alikeA 0 (oneA 5 0) (oneA 6 0) = false from by decide +kernel] at a3
  refine acalls_of code_scrimlaw09_awake (by simp [fn_scrimlaw09_awake]) fun C hC => ?_
  refine walk ?_
  refine aw_reg (rrun ?_)
  refine r_call (one_a 5 2 (by omega) (by omega)) (rrun ?_)
  refine r_call (one_a 6 3 (by omega) (by omega)) (rrun ?_)
  refine r_call a1 (rrun ?_)
  refine r_call (one_a 5 2 (by omega) (by omega)) (rrun ?_)
  refine r_call (one_a 6 3 (by omega) (by omega)) (rrun ?_)
  refine r_call a2 (rrun ?_)
  refine r_call (one_a 5 0 (by omega) (by omega)) (rrun ?_)
  refine r_call (one_a 6 0 (by omega) (by omega)) (rrun ?_)
  refine r_call a3 (rrun ?_)
  refine rg_nil ⟨rfl, ?_⟩
  refine walk ?_
  exact ⟨_, _, rfl, rfl, Sub.refl _⟩
end Go.Proofs.Ytkgnnnehmnoleaa
