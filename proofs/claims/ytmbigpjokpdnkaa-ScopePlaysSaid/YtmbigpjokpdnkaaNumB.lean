/- Machine numbers as the reference writes them. -/
import Derived.Test.YtmbigpjokpdnkaaNumA
import Derived.Test.YtmbigpjokpdnkaaNatW
import Derived.Test.YtmbigpjokpdnkaaAbsN
import Derived.Test.YtmbigpjokpdnkaaShQ
import Derived.Test.YtmbigpjokpdnkaaHideQ
namespace Go.Proofs.Ytmbigpjokpdnkaa
set_option linter.unusedVariables false
open Go.RowKit

section
variable {P : Program} {tt : List (Nat × AV)} {hh : Hp} {nn dd : Nat} {g : Option (Nat × Bool)} {l : List AInst} {acc : List SD} {K : List SD → St → Prop}
/-- two blocks of one's own are given away -/
theorem r_callF2 {fo : Operand} {args : List Operand} {f : FuncId} {fi ca avs avs' : List AV} {r : AV} (i j : Nat) {o o2 : OB} (rd : List Nat) (hc : ACalls P f avs' r) (h : RG P (⟨⟨some dd, g, .call fo args⟩, r, rd, [(j, some { o2 with ro := true }), (i, some { o with ro := true })], 0⟩ :: acc) l ⟨(dd, r) :: tt, (j, some { o2 with ro := true }) :: (i, some { o with ro := true }) :: hh, nn⟩ K) (hg : gOK ⟨tt, hh, nn⟩ g := by first | exact True.intro | rfl) (hf : ev ⟨tt, hh, nn⟩ fo = .fn f fi ca := by rfl) (ho : hl hh i = some o := by rfl) (ho2 : hl ((i, some { o with ro := true }) :: hh) j = some o2 := by rfl) (hv : optAll (viewN true (restr rd ((j, some { o2 with ro := true }) :: (i, some { o with ro := true }) :: hh)) 4) (fi ++ (args.map (ev ⟨tt, hh, nn⟩) ++ ca)) = some avs := by rfl) (hs : SubL avs avs' := by (repeat (first | exact SubL.nil | refine SubL.cons (by first | exact Sub.refl _ | exact Sub.nil _ | exact Sub.any _) ?_))) : RG P acc (⟨some dd, g, .call fo args⟩ :: l) ⟨tt, hh, nn⟩ K :=
  RG.step (Step.freeze (upd := [(j, some { o2 with ro := true })]) i ho (Step.freeze (st := ⟨tt, (i, some { o with ro := true }) :: hh, nn⟩) (upd := []) j ho2 (q_call (st := ⟨tt, (j, some { o2 with ro := true }) :: (i, some { o with ro := true }) :: hh, nn⟩) true rd hg hf hv hs hc rfl))) h
end

def ofZ (z : Int) : Num := ⟨decide (z < 0), limbs z.natAbs, [1]⟩
def digZ (m : Int) : List Int := [m % 4294967296, m / 4294967296]
theorem digZ_ok {m : Int} (h0 : 0 ≤ m) (h1 : m ≤ 9223372036854775807) : limOK (digZ m) := by
  intro z hz
  simp only [digZ, List.mem_cons, List.not_mem_nil, or_false] at hz
  rcases hz with h | h <;> omega
theorem digZ_val {m : Int} (h0 : 0 ≤ m) (h1 : m ≤ 9223372036854775807) : valL (digZ m) = m.toNat := by
  simp only [digZ, valL]; omega
theorem digZ_len (m : Int) : (digZ m).length = 2 := rfl
theorem sgnV_false (V : Nat) : sgnV false V = false := by unfold sgnV; split <;> rfl
theorem sgnV_true {V : Nat} (h : V ≠ 0) : sgnV true V = true := by unfold sgnV; rw [if_neg h]

theorem sgn_dec (z : Int) : sgnV (decide (z < 0)) z.natAbs = decide (z < 0) := by
  unfold sgnV; split
  · rename_i h; rw [eq_comm, decide_eq_false_iff_not]; omega
  · rfl

def intC (z : Int) : Cell := .mk 0 0 (ofZ z) 0 []
theorem vector_a (cs : List Cell) (hb : cs.length ≤ 100000000) (hc : ∀ c ∈ cs, c.n.top.length ≤ maxB ∧ c.n.bot.length ≤ maxB ∧ c.ins.length ≤ maxB) : ACalls Try.prog 33 [.sl 7 (cs.map cellR)] (.agg (arrV (.mk 0 [(cs.length : Int)] cs))) := by
  have hB : maxB = 1000000000 := rfl
  have lcs : ((cs.map cellR).length : Int) = cs.length := by simp
  refine acalls_of code_array_Vector (by simp [fn_array_Vector]) fun C hC => ?_
  refine walk2 ?_
  have e0 := rowK_zero cellV cellZ cs
  refine aw_loopB [2, 3, 9, 10, 0] [0] (fun k : Nat => [(11, .lit (.int .i64 k))]) (fun k => [(1, some ⟨true, false, 85, 7, rowK cellV cellZ cs k⟩)]) 2
    (fun k => k ≤ cs.length) (fun k => cs.length - k) 0 (Nat.zero_le _) ?_
  rintro k hk
  dsimp only [List.cons_append, List.nil_append]
  by_cases hlt : k < cs.length
  · obtain ⟨c, hck⟩ : ∃ c, cs[k]? = some c := ⟨_, List.getElem?_eq_getElem hlt⟩
    obtain ⟨h1, h2, h3⟩ := hc c (List.mem_of_getElem? hck)
    have c1 := own_a c h1 h2 h3
    have hcv := cell_at hck
    have hset := rowK_set cellV cellZ cs k c hck
    have hget := rowK_get cellV cellZ cs k hlt
    have hll := rowK_len cellV cellZ cs k hk
    refine walk2 ?_
    exact ⟨k + 1, by omega, by omega, wkR hC.m [] (by rw [← hset]; rfl)⟩
  · rw [rowK_end cellV cellZ cs k hlt, show cs.map cellV = cs.map cellR from by simp [cellR_eq]]
    refine walk2 ?_
    exact fin
end Go.Proofs.Ytmbigpjokpdnkaa
