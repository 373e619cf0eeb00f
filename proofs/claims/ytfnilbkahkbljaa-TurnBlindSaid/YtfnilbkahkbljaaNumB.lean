/- Machine numbers as the reference writes them. -/
import Derived.Test.YtfnilbkahkbljaaNumA
import Derived.Test.YtfnilbkahkbljaaNatW
import Derived.Test.YtfnilbkahkbljaaAbsN
import Derived.Test.YtfnilbkahkbljaaShQ
import Derived.Test.YtfnilbkahkbljaaHideQ
namespace Go.Proofs.Ytfnilbkahkbljaa
set_option linter.unusedVariables false
open Go.RowKit

section
variable {P : Program} {tt : List (Nat × AV)} {hh : Hp} {nn dd : Nat} {g : Option (Nat × Bool)} {l : List AInst} {acc : List SD} {K : List SD → St → Prop}
/-- two blocks of one's own are given away -/
theorem r_callF2 {fo : Operand} {args : List Operand} {f : FuncId} {fi ca avs avs' : List AV} {r : AV} (i j : Nat) {o o2 : OB} (rd : List Nat) (hc : ACalls P f avs' r) (h : RG P (⟨⟨some dd, g, .call fo args⟩, r, rd, [(j, some { o2 with ro := true }), (i, some { o with ro := true })], false⟩ :: acc) l ⟨(dd, r) :: tt, (j, some { o2 with ro := true }) :: (i, some { o with ro := true }) :: hh, nn⟩ K) (hg : gOK ⟨tt, hh, nn⟩ g := by first | exact True.intro | rfl) (hf : ev ⟨tt, hh, nn⟩ fo = .fn f fi ca := by rfl) (ho : hl hh i = some o := by rfl) (ho2 : hl ((i, some { o with ro := true }) :: hh) j = some o2 := by rfl) (hv : optAll (viewN true (restr rd ((j, some { o2 with ro := true }) :: (i, some { o with ro := true }) :: hh)) 4) (fi ++ (args.map (ev ⟨tt, hh, nn⟩) ++ ca)) = some avs := by rfl) (hs : SubL avs avs' := by (repeat (first | exact SubL.nil | refine SubL.cons (by first | exact Sub.refl _ | exact Sub.nil _ | exact Sub.any _) ?_))) : RG P acc (⟨some dd, g, .call fo args⟩ :: l) ⟨tt, hh, nn⟩ K :=
  RG.step (Step.freeze (upd := [(j, some { o2 with ro := true })]) i ho (Step.freeze (st := ⟨tt, (i, some { o with ro := true }) :: hh, nn⟩) (upd := []) j ho2 (q_call (st := ⟨tt, (j, some { o2 with ro := true }) :: (i, some { o with ro := true }) :: hh, nn⟩) true rd hg hf hv hs hc rfl))) h
end

def ofZ (z : Int) : Num := ⟨decide (z < 0), limbs z.natAbs, [1]⟩
def digZ (m : Int) : List Int := [m % 4294967296, m / 4294967296]
theorem digZ_ok {m : Int} (h0 : 0 ≤ m) (h1 : m ≤ 9223372036854775807) : limOK (digZ m) := by
  intro z hz
  simp only [digZ, List.mem_cons, List.not_mem_nil, or_false] at hz
  rcases hz with h | h <;> omega
theorem digZ_val {m : Int} (h0 : 0 ≤ m) (h1 : m ≤ 9223372036854775807) : valL (digZ m) = m.toNat := by
  simp only [digZ, valL]; omega
theorem digZ_len (m : Int) : (digZ m).length = 2 := rfl
theorem sgnV_false (V : Nat) : sgnV false V = false := by unfold sgnV; split <;> rfl
theorem sgnV_true {V : Nat} (h : V ≠ 0) : sgnV true V = true := by unfold sgnV; rw [if_neg h]

theorem r3Of_a (z : Int) (h0 : -9223372036854775808 ≤ z) (h1 : z ≤ 9223372036854775807) : ACalls Try.prog 134 [.lit (.int .i64 z)] (.agg (intV (decide (z < 0)) (limbs z.natAbs))) := by
  have hB : maxB = 1000000000 := rfl
  by_cases hz : 0 ≤ z
  · have c1 := r3Norm_a false (digZ z) (digZ_ok hz h1) (by rw [digZ_len]; omega)
    rw [digZ_val hz h1, sgnV_false, show z.toNat = z.natAbs from by omega] at c1
    rw [show decide (z < 0) = false from by simp; omega]
    refine acalls_of code_scrimref03_Of (by simp [fn_scrimref03_Of]) fun C hC => ?_
    refine walk2 ?_
    exact fin
  · have hm0 : 0 ≤ -1 - z := by omega
    have hm1 : -1 - z ≤ 9223372036854775807 := by omega
    have c2 := rAdd_a (digZ (-1 - z)) [1] (digZ_ok hm0 hm1) (by intro y hy; simp at hy; omega) (by rw [digZ_len]; omega) (by simp)
    rw [digZ_val hm0 hm1, show valL [1] = 1 from by simp [valL], show (-1 - z).toNat + 1 = z.natAbs from by omega] at c2
    have hll := limbs_len_pow 64 z.natAbs (by omega)
    have c1 := r3Norm_a true (limbs z.natAbs) (limbs_ok _) (by omega)
    rw [valL_limbs, sgnV_true (by omega)] at c1
    rw [show decide (z < 0) = true from by simp; omega]
    refine acalls_of code_scrimref03_Of (by simp [fn_scrimref03_Of]) fun C hC => ?_
    refine walk2 ?_
    refine aw_reg ?_
    refine rrun2 ?_
    refine r_callF2 1 2 [1, 2] c2 ?_
    refine rrun2 ?_
    refine rg_nil ⟨rfl, ?_⟩
    refine walk2 ?_
    exact fin

theorem r4Whole_a (n : Bool) (V : Nat) (hl : (limbs V).length ≤ maxB) : ACalls Try.prog 133 [.agg (intV n (limbs V))] (.agg (numV ⟨sgnV n V, limbs V, [1]⟩)) := by
  have c1 := r3Norm_a n (limbs V) (limbs_ok _) hl
  rw [valL_limbs] at c1
  refine acalls_of code_scrimref04_Whole (by simp [fn_scrimref04_Whole]) fun C hC => ?_
  refine walk2 ?_
  exact fin

theorem sgn_dec (z : Int) : sgnV (decide (z < 0)) z.natAbs = decide (z < 0) := by
  unfold sgnV; split
  · rename_i h; rw [eq_comm, decide_eq_false_iff_not]; omega
  · rfl

theorem r4Of_a (z : Int) (h0 : -9223372036854775808 ≤ z) (h1 : z ≤ 9223372036854775807) : ACalls Try.prog 106 [.lit (.int .i64 z)] (.agg (numV (ofZ z))) := by
  have hB : maxB = 1000000000 := rfl
  have c1 := r3Of_a z h0 h1
  have hll := limbs_len_pow 64 z.natAbs (by omega)
  have c2 := r4Whole_a (decide (z < 0)) z.natAbs (by omega)
  rw [sgn_dec] at c2
  refine acalls_of code_scrimref04_Of (by simp [fn_scrimref04_Of]) fun C hC => ?_
  refine walk2 ?_
  exact fin

def intC (z : Int) : Cell := .mk 0 0 (ofZ z) 0 []
theorem r8Int_a (z : Int) (h0 : -9223372036854775808 ≤ z) (h1 : z ≤ 9223372036854775807) : ACalls Try.prog 54 [.lit (.int .i64 z)] (.agg (cellV (intC z))) := by
  have c1 := r4Of_a z h0 h1
  refine acalls_of code_scrimref08_Int (by simp [fn_scrimref08_Int]) fun C hC => ?_
  refine walk2 ?_
  exact fin

theorem r11Vector_a (l : List Int) (s : Nat) (hl : l.length ≤ maxB) (hr : ∀ z ∈ l, -9223372036854775808 ≤ z ∧ z ≤ 9223372036854775807) : ACalls Try.prog 52 [.sl 1 (intsA .i64 l), labV s] (.agg (arrV (.mk s [(l.length : Int)] (l.map intC)))) := by
  have hB : maxB = 1000000000 := rfl
  have ll := intsA_len .i64 l
  refine acalls_of code_scrimref11_Vector (by simp [fn_scrimref11_Vector]) fun C hC => ?_
  refine walk2 ?_
  refine aw_nilF 2 2 76 7 rfl rfl rfl rfl ?_
  refine aw_loopB [0, 4, 5] [0, 1] (fun k : Nat => [(6, .lit (.int .i64 k))]) (fun k => [(2, some ⟨false, false, 26, 3, [[labV s, .own 1, .own 3]]⟩), (3, some ⟨true, false, 76, 7, ((l.take k).map intC).map cellR⟩)]) 4
    (fun k => k ≤ l.length) (fun k => l.length - k) 0 (Nat.zero_le _) ?_
  rintro k hk
  dsimp only [List.cons_append, List.nil_append]
  by_cases hlt : k < l.length
  · obtain ⟨z, hz⟩ : ∃ z, l[k]? = some z := ⟨_, List.getElem?_eq_getElem hlt⟩
    have hzr := hr z (List.mem_of_getElem? hz)
    have c1 := r8Int_a z hzr.1 hzr.2
    have hzk := int_at (k := .i64) hz
    have hms : ((l.take k).map intC).map cellR ++ [cellV (intC z)] = ((l.take (k + 1)).map intC).map cellR := by
      rw [takeA_snoc hz]; simp [cellR_eq]
    have hlm : (((l.take k).map intC).map cellR).length = k := by simp; omega
    refine walk2 ?_
    exact ⟨k + 1, by omega, by omega, wkR hC.m [(3, 5)] (by rw [← hms]; rfl)⟩
  · rw [List.take_of_length_le (by omega)]
    refine walk2 ?_
    exact fin
theorem vector_a (cs : List Cell) (hb : cs.length ≤ 100000000) (hc : ∀ c ∈ cs, c.n.top.length ≤ maxB ∧ c.n.bot.length ≤ maxB ∧ c.ins.length ≤ maxB) : ACalls Try.prog 55 [.sl 7 (cs.map cellR)] (.agg (arrV (.mk 0 [(cs.length : Int)] cs))) := by
  have hB : maxB = 1000000000 := rfl
  have lcs : ((cs.map cellR).length : Int) = cs.length := by simp
  refine acalls_of code_array_Vector (by simp [fn_array_Vector]) fun C hC => ?_
  refine walk2 ?_
  have e0 := rowK_zero cellV cellZ cs
  refine aw_loopB [2, 3, 9, 10, 0] [0] (fun k : Nat => [(11, .lit (.int .i64 k))]) (fun k => [(1, some ⟨true, false, 76, 7, rowK cellV cellZ cs k⟩)]) 2
    (fun k => k ≤ cs.length) (fun k => cs.length - k) 0 (Nat.zero_le _) ?_
  rintro k hk
  dsimp only [List.cons_append, List.nil_append]
  by_cases hlt : k < cs.length
  · obtain ⟨c, hck⟩ : ∃ c, cs[k]? = some c := ⟨_, List.getElem?_eq_getElem hlt⟩
    obtain ⟨h1, h2, h3⟩ := hc c (List.mem_of_getElem? hck)
    have c1 := own_a c h1 h2 h3
    have hcv := cell_at hck
    have hset := rowK_set cellV cellZ cs k c hck
    have hget := rowK_get cellV cellZ cs k hlt
    have hll := rowK_len cellV cellZ cs k hk
    refine walk2 ?_
    exact ⟨k + 1, by omega, by omega, wkR hC.m [] (by rw [← hset]; rfl)⟩
  · rw [rowK_end cellV cellZ cs k hlt, show cs.map cellV = cs.map cellR from by simp [cellR_eq]]
    refine walk2 ?_
    exact fin
end Go.Proofs.Ytfnilbkahkbljaa
