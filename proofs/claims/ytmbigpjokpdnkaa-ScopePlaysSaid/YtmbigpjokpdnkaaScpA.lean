/- Scopes: the law's example. -/
import Derived.Test.YtmbigpjokpdnkaaScpP
import Derived.Test.YtmbigpjokpdnkaaNumE
import Derived.Test.YtmbigpjokpdnkaaFewP
namespace Go.Proofs.Ytmbigpjokpdnkaa
set_option linter.unusedVariables false
open Go.RowKit

section
variable {P : Program} {tt : List (Nat × AV)} {hh : Hp} {nn dd : Nat} {g : Option (Nat × Bool)} {l : List AInst} {acc : List SD} {K : List SD → St → Prop}
/-- a call that hands back three blocks of its own -/
theorem r_callN3 {fo : Operand} {args : List Operand} {f : FuncId} {fi ca argsA argsC : List AV} {hC h' u' h2 : Hp} {m m' n2 : Nat} {r v : AV} (σ : List (Nat × Nat)) (hc : AMut P f argsC hC m r h' m')
    (h : RG P (⟨⟨some dd, g, .call fo args⟩, v, σ.map (·.1), u', 3⟩ :: acc) l ⟨(dd, v) :: tt, h2, n2⟩ K)
    (hmm : m' = m + 3 := by rfl)
    (hv : renAV ((m, nn) :: (m + 1, nn + 1) :: (m + 2, nn + 2) :: swapL σ) r = v := by (simp only [renAV, renL, renOB, swapL, updM, look_if, look_nil, List.map_cons, List.map_nil, ↓reduceIte, Nat.reduceEqDiff, Nat.reduceBEq, Nat.reduceAdd, Option.map_some, Option.map_none, cond_true, cond_false]; exact rfl)) (hu : updM ((m, nn) :: (m + 1, nn + 1) :: (m + 2, nn + 2) :: swapL σ) h' = u' := by (simp only [renAV, renL, renOB, swapL, updM, look_if, look_nil, List.map_cons, List.map_nil, ↓reduceIte, Nat.reduceEqDiff, Nat.reduceBEq, Nat.reduceAdd, Option.map_some, Option.map_none, cond_true, cond_false]; exact rfl)) (h2e : u' ++ hh = h2 := by (simp only [List.cons_append, List.nil_append]; exact rfl)) (hn2 : nn + 3 = n2 := by (simp only [Nat.reduceAdd]; exact rfl))
    (hg : gOK ⟨tt, hh, nn⟩ g := by first | exact True.intro | rfl) (hf : ev ⟨tt, hh, nn⟩ fo = .fn f fi ca := by rfl)
    (hσ : okR m σ = true := by rfl) (hcov : coverB m σ = true := by rfl) (hlive : (σ.all fun p => (refsA (restr (σ.map (·.1)) hh) (fi ++ (args.map (ev ⟨tt, hh, nn⟩) ++ ca))).any (Nat.beq p.1)) = true := by rfl)
    (hargs : (fi ++ (args.map (ev ⟨tt, hh, nn⟩) ++ ca)).map (renAV σ) = argsA := by rfl) (hs : SubRL argsA argsC := by (repeat (first | exact SubRL.nil | refine SubRL.cons ?_ ?_ | exact SubR.nil _ | exact SubR.refl _ | exact SubR.any _ | refine SubR.agg ?_)))
    (hh0 : (σ.map fun p => (p.2, (hl hh p.1).map (renOB σ))) = hC := by rfl) (hro : (σ.all fun p => match hl hh p.1 with | some o => !o.ro | none => true) = true := by rfl)
    (hkeys : ((h'.map (·.1)).all fun i => Nat.blt i m') = true := by rfl) (hin : coverB m' (h'.map fun p => (p.1, p.1)) = true := by rfl) :
    RG P acc (⟨some dd, g, .call fo args⟩ :: l) ⟨tt, hh, nn⟩ K := by
  subst hn2
  subst hmm
  have e1 : m + 3 - m = 3 := Nat.add_sub_cancel_left ..
  have e2 : tauL σ m (m + 3) nn = (m, nn) :: (m + 1, nn + 1) :: (m + 2, nn + 2) :: swapL σ := by simp [tauL, List.range_succ]
  have hs' := q_callM (st := ⟨tt, hh, nn⟩) (d := some dd) (g := g) σ hg hf hσ hcov hlive hargs hs hh0 hro hc hkeys hin (by simp)
  simp only [e1, e2, hv, hu] at hs'
  subst h2e
  exact RG.step hs' h
end

abbrev xS : ByteArray := ⟨#[120]⟩
abbrev yS : ByteArray := ⟨#[121]⟩
theorem x_ne_y : xS ≠ yS := by decide
theorem y_ne_x : yS ≠ xS := by decide
def arr0 : Arr := .mk 0 [] []
def arr1 : Arr := .mk 0 [1] [intC 1]
theorem siz0 : sizA arr0 = 0 := by simp [arr0, sizA, sizCs]
theorem siz1 : sizA arr1 = 1 := by simp [arr1, intC, sizA, sizCs, sizC, sizAs]
theorem ok0 : okA arr0 := by simp [arr0, okA, okCs]
theorem sorted_xy (u v : AV) : sortedRow [[strA xS, u], [strA yS, v]] = [[strA xS], [strA yS]] := by
  have e : sortedKeys [[strA xS, u], [strA yS, v]] = [[120], [121]] := by
    show List.mergeSort [[120], [121]] leB = [[120], [121]]
    exact List.mergeSort_of_pairwise (by simp [leB]; decide)
  rw [sortedRow, e]; rfl
theorem sorted_nil : sortedRow [] = [] := by simp [sortedRow, sortedKeys]

theorem numA_ok24 : okC (intC 1) := by
  have hB : maxB = 1000000000 := rfl
  have hll : (limbs (1 : Int).natAbs).length ≤ 2 := by
    rw [← digI_limbs (by omega) (by omega)]
    have k1 := trimI_len (digI 1)
    have hd := digI_len 1
    omega
  simp only [intC, okC, okAs, ofZ, List.length_nil, List.length_cons]
  exact ⟨by omega, by omega, by omega, by omega, trivial⟩

abbrev vaX1 : List (List AV) := [[strA xS, heldV 1 arr0 0]]
abbrev vaX2 : List (List AV) := [[strA xS, heldV 1 arr0 0], [strA yS, heldV 0 arr1 1]]
abbrev vaX3 : List (List AV) := [[strA xS, heldV 2 arr0 0], [strA yS, heldV 0 arr1 1]]
abbrev vaX4 : List (List AV) := [[strA yS, heldV 0 arr1 1]]

set_option maxHeartbeats 4000000 in
set_option maxRecDepth 10000 in
theorem awake24_a : ACalls Try.prog 10 [] (.lit (.bool true)) := by
  have hz : ACalls Try.prog 44 [.agg (arrV arr0)] (i64A 0) := by
    have := size_a arr0 ok0 (by rw [siz0]; omega)
    rwa [siz0] at this
  have i1 := arrIntG_a 1 (by omega) (by omega)
  have hA : okA arr1 := by
    have := (numA_ok24 : okC (intC 1))
    exact ⟨by decide, by decide, by decide, by simp only [okCs]; exact ⟨this, trivial⟩⟩
  have hz1 : ACalls Try.prog 44 [.agg (arrV arr1)] (i64A 1) := by
    have := size_a arr1 hA (by rw [siz1]; omega)
    rwa [siz1] at this
  have v1 : ACalls Try.prog 33 [.sl 7 ([intC 1].map cellR)] (.agg (arrV arr1)) := by
    refine vector_a [intC 1] (by simp) (fun c hc => ?_)
    obtain rfl := List.mem_singleton.1 hc
    exact ⟨numA_ok24.2.1, numA_ok24.2.2.1, by simp [intC, Cell.ins]⟩
  have c0 := scNew_m
  have p1 : AMut _ _ _ _ _ _ (scH 0 vaX1 []) 3 := scPut_new 0 [] [] vaX1 xS (by decide) 1 arr0 0 hz rfl rfl (by omega) (by omega)
  have p2 : AMut _ _ _ _ _ _ (scH 1 vaX2 []) 3 := scPut_new 0 vaX1 [] vaX2 yS (by decide) 0 arr1 1 hz1 (by simp [mapGet]) (by simp [mapPut]) (by omega) (by omega)
  have p3 : AMut _ _ _ _ _ _ (scH 1 vaX3 []) 3 := scPut_old 1 vaX2 [] vaX3 xS (by decide) 2 arr0 0 hz 1 arr0 0 (by simp [mapGet]) (by simp [mapPut]) (by omega) (by omega) (by omega)
  have g1 := scGet_yes 1 vaX3 [] xS 2 arr0 0 (by simp [mapGet])
  have nm := scNames_m 1 vaX3 [] (fun e he => by simp at he; rcases he with rfl | rfl <;> exact ⟨_, _, rfl⟩) (fun e he => by simp at he) (by simp) (by simp)
  rw [sorted_xy, sorted_nil] at nm
  have d1 : AMut _ _ _ _ _ _ (scH 1 vaX4 []) 3 := scDrop_10 1 vaX3 [] vaX4 xS 2 arr0 0 (by simp [mapGet]) (by simp [mapDel]) rfl rfl (by omega) (by omega)
  have l1 := scCells_m 1 vaX4 []
  clear hz hz1
  refine acalls_of code_scrimlaw24_awake (by simp [fn_scrimlaw24_awake]) fun C hC => ?_
  refine walk4 ?_
  refine aw_reg (rrun4 ?_)
  refine r_callN3 [] c0 ?_
  refine rrun4 ?_
  refine rg_nil ⟨rfl, ?_⟩
  refine walk4 ?_
  refine aw_reg (rrun4 ?_)
  refine r_callM [(0, 0), (1, 1), (2, 2)] p1 ?_
  refine rrun4 ?_
  refine rg_nil ⟨rfl, ?_⟩
  refine walk4 ?_
  refine aw_reg (rrun4 ?_)
  refine r_callM [(0, 0), (1, 1), (2, 2)] p2 ?_
  refine rrun4 ?_
  refine rg_nil ⟨rfl, ?_⟩
  refine walk4 ?_
  refine aw_reg (rrun4 ?_)
  refine r_callM [(0, 0), (1, 1), (2, 2)] p3 ?_
  refine rrun4 ?_
  refine rg_nil ⟨rfl, ?_⟩
  refine walk4 ?_
  refine aw_reg (rrun4 ?_)
  refine r_callM [(0, 0), (1, 1), (2, 2)] g1 ?_
  refine rrun4 ?_
  refine rg_nil ⟨rfl, ?_⟩
  refine walk4 ?_
  refine aw_reg (rrun4 ?_)
  refine r_callN2 [(0, 0), (1, 1), (2, 2)] nm ?_
  refine rrun4 ?_
  refine rg_nil ⟨rfl, ?_⟩
  refine walk4 ?_
  refine aw_reg (rrun4 ?_)
  refine r_callM [(0, 0), (1, 1), (2, 2)] d1 ?_
  refine rrun4 ?_
  refine rg_nil ⟨rfl, ?_⟩
  refine walk4 ?_
  refine aw_reg (rrun4 ?_)
  refine r_callM [(0, 0), (1, 1), (2, 2)] l1 ?_
  refine rrun4 ?_
  refine rg_nil ⟨rfl, ?_⟩
  refine walk4 ?_
  exact fin
end Go.Proofs.Ytmbigpjokpdnkaa
