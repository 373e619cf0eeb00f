/- Machine numbers as the reference writes them. -/
import Derived.Test.YtfnbhkeilcbmjaaNumA
import Derived.Test.YtfnbhkeilcbmjaaNatW
import Derived.Test.YtfnbhkeilcbmjaaAbsN
import Derived.Test.YtfnbhkeilcbmjaaShQ
import Derived.Test.YtfnbhkeilcbmjaaHideQ
namespace Go.Proofs.Ytfnbhkeilcbmjaa
set_option linter.unusedVariables false
open Go.RowKit

section
variable {P : Program} {tt : List (Nat × AV)} {hh : Hp} {nn dd : Nat} {g : Option (Nat × Bool)} {l : List AInst} {acc : List SD} {K : List SD → St → Prop}
/-- two blocks of one's own are given away -/
theorem r_callF2 {fo : Operand} {args : List Operand} {f : FuncId} {fi ca avs avs' : List AV} {r : AV} (i j : Nat) {o o2 : OB} (rd : List Nat) (hc : ACalls P f avs' r) (h : RG P (⟨⟨some dd, g, .call fo args⟩, r, rd, [(j, some { o2 with ro := true }), (i, some { o with ro := true })], 0⟩ :: acc) l ⟨(dd, r) :: tt, (j, some { o2 with ro := true }) :: (i, some { o with ro := true }) :: hh, nn⟩ K) (hg : gOK ⟨tt, hh, nn⟩ g := by first | exact True.intro | rfl) (hf : ev ⟨tt, hh, nn⟩ fo = .fn f fi ca := by rfl) (ho : hl hh i = some o := by rfl) (ho2 : hl ((i, some { o with ro := true }) :: hh) j = some o2 := by rfl) (hv : optAll (viewN true (restr rd ((j, some { o2 with ro := true }) :: (i, some { o with ro := true }) :: hh)) 4) (fi ++ (args.map (ev ⟨tt, hh, nn⟩) ++ ca)) = some avs := by rfl) (hs : SubL avs avs' := by (repeat (first | exact SubL.nil | refine SubL.cons (by first | exact Sub.refl _ | exact Sub.nil _ | exact Sub.any _) ?_))) : RG P acc (⟨some dd, g, .call fo args⟩ :: l) ⟨tt, hh, nn⟩ K :=
  RG.step (Step.freeze (upd := [(j, some { o2 with ro := true })]) i ho (Step.freeze (st := ⟨tt, (i, some { o with ro := true }) :: hh, nn⟩) (upd := []) j ho2 (q_call (st := ⟨tt, (j, some { o2 with ro := true }) :: (i, some { o with ro := true }) :: hh, nn⟩) true rd hg hf hv hs hc rfl))) h
end

def ofZ (z : Int) : Num := ⟨decide (z < 0), limbs z.natAbs, [1]⟩
def digZ (m : Int) : List Int := [m % 4294967296, m / 4294967296]
theorem digZ_ok {m : Int} (h0 : 0 ≤ m) (h1 : m ≤ 9223372036854775807) : limOK (digZ m) := by
  intro z hz
  simp only [digZ, List.mem_cons, List.not_mem_nil, or_false] at hz
  rcases hz with h | h <;> omega
theorem digZ_val {m : Int} (h0 : 0 ≤ m) (h1 : m ≤ 9223372036854775807) : valL (digZ m) = m.toNat := by
  simp only [digZ, valL]; omega
theorem digZ_len (m : Int) : (digZ m).length = 2 := rfl
theorem sgnV_false (V : Nat) : sgnV false V = false := by unfold sgnV; split <;> rfl
theorem sgnV_true {V : Nat} (h : V ≠ 0) : sgnV true V = true := by unfold sgnV; rw [if_neg h]

theorem r3Of_a (z : Int) (h0 : -9223372036854775808 ≤ z) (h1 : z ≤ 9223372036854775807) : ACalls Try.prog 86 [.lit (.int .i64 z)] (.agg (intV (decide (z < 0)) (limbs z.natAbs))) := by
  have hB : maxB = 1000000000 := rfl
  by_cases hz : 0 ≤ z
  · have c1 := r3Norm_a false (digZ z) (digZ_ok hz h1) (by rw [digZ_len]; omega)
    rw [digZ_val hz h1, sgnV_false, show z.toNat = z.natAbs from by omega] at c1
    rw [show decide (z < 0) = false from by simp; omega]
    refine acalls_of code_scrimref03_Of (by simp [fn_scrimref03_Of]) fun C hC => ?_
    refine walk2 ?_
    exact fin
  · have hm0 : 0 ≤ -1 - z := by omega
    have hm1 : -1 - z ≤ 9223372036854775807 := by omega
    have c2 := rAdd_a (digZ (-1 - z)) [1] (digZ_ok hm0 hm1) (by intro y hy; simp at hy; omega) (by rw [digZ_len]; omega) (by simp)
    rw [digZ_val hm0 hm1, show valL [1] = 1 from by simp [valL], show (-1 - z).toNat + 1 = z.natAbs from by omega] at c2
    have hll := limbs_len_pow 64 z.natAbs (by omega)
    have c1 := r3Norm_a true (limbs z.natAbs) (limbs_ok _) (by omega)
    rw [valL_limbs, sgnV_true (by omega)] at c1
    rw [show decide (z < 0) = true from by simp; omega]
    refine acalls_of code_scrimref03_Of (by simp [fn_scrimref03_Of]) fun C hC => ?_
    refine walk2 ?_
    refine aw_reg ?_
    refine rrun2 ?_
    refine r_callF2 1 2 [1, 2] c2 ?_
    refine rrun2 ?_
    refine rg_nil ⟨rfl, ?_⟩
    refine walk2 ?_
    exact fin

theorem r4Whole_a (n : Bool) (V : Nat) (hl : (limbs V).length ≤ maxB) : ACalls Try.prog 85 [.agg (intV n (limbs V))] (.agg (numV ⟨sgnV n V, limbs V, [1]⟩)) := by
  have c1 := r3Norm_a n (limbs V) (limbs_ok _) hl
  rw [valL_limbs] at c1
  refine acalls_of code_scrimref04_Whole (by simp [fn_scrimref04_Whole]) fun C hC => ?_
  refine walk2 ?_
  exact fin

theorem sgn_dec (z : Int) : sgnV (decide (z < 0)) z.natAbs = decide (z < 0) := by
  unfold sgnV; split
  · rename_i h; rw [eq_comm, decide_eq_false_iff_not]; omega
  · rfl

theorem r4Of_a (z : Int) (h0 : -9223372036854775808 ≤ z) (h1 : z ≤ 9223372036854775807) : ACalls Try.prog 70 [.lit (.int .i64 z)] (.agg (numV (ofZ z))) := by
  have hB : maxB = 1000000000 := rfl
  have c1 := r3Of_a z h0 h1
  have hll := limbs_len_pow 64 z.natAbs (by omega)
  have c2 := r4Whole_a (decide (z < 0)) z.natAbs (by omega)
  rw [sgn_dec] at c2
  refine acalls_of code_scrimref04_Of (by simp [fn_scrimref04_Of]) fun C hC => ?_
  refine walk2 ?_
  exact fin

def intC (z : Int) : Cell := .mk 0 0 (ofZ z) 0 []
theorem r8Int_a (z : Int) (h0 : -9223372036854775808 ≤ z) (h1 : z ≤ 9223372036854775807) : ACalls Try.prog 58 [.lit (.int .i64 z)] (.agg (cellV (intC z))) := by
  have c1 := r4Of_a z h0 h1
  refine acalls_of code_scrimref08_Int (by simp [fn_scrimref08_Int]) fun C hC => ?_
  refine walk2 ?_
  exact fin

end Go.Proofs.Ytfnbhkeilcbmjaa
