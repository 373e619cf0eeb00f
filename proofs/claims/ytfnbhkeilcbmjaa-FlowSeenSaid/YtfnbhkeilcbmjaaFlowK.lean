/- Flow: the records that observers see: the law. -/
import Derived.Test.YtfnbhkeilcbmjaaFlowI
namespace Go.Proofs.Ytfnbhkeilcbmjaa
set_option linter.unusedVariables false
open Go.RowKit

theorem flowsN_mono {a b c : Nat} (h : flowsN a b = true) : flowsN a (b ||| c) = true := by
  simp only [flowsN, beq_iff_eq] at h ⊢
  rw [← Nat.or_assoc, h]
theorem seenP_less (c : Cfg) (o more : Nat) (l : List Rec) : seenP c o (seenP c (o ||| more) l) = seenP c o l := by
  unfold seenP
  rw [List.filter_filter]
  refine List.filter_congr fun r _ => ?_
  cases h : flowsN (goesTo c r) o
  · rfl
  · rw [flowsN_mono h]; rfl
theorem seenP_sub {c : Cfg} {o : Nat} {l : List Rec} {r : Rec} (h : r ∈ seenP c o l) : r ∈ l := (List.mem_filter.1 h).1
theorem seenP_len' (c : Cfg) (o : Nat) (l : List Rec) : (seenP c o l).length ≤ l.length := List.length_filter_le _ _

set_option maxHeartbeats 8000000 in
set_option maxRecDepth 10000 in
theorem flowSeen_a (c : Cfg) (l : List Rec) (o more : Nat) (hc : CfgT c) (hl : ∀ r ∈ l, recOK r) (hlen : l.length ≤ reachBytes) (ho : o < 18446744073709551616) (hm : more < 18446744073709551616) :
    ACalls Try.prog 6 [.agg (cfgV c), .sl 8 (l.map recV), labV o, labV more] (.lit (.bool true)) := by
  have hR : reachBytes = 140737488351232 := rfl
  have hL : (((l.map recV).length : Nat) : Int) = (l.length : Nat) := by simp
  have ca := awake25_a
  refine acalls_of code_scrimlaw25_FlowSeen (by simp [fn_scrimlaw25_FlowSeen]) fun C hC => ?_
  by_cases h60 : l.length ≤ 60
  · have hto : ∀ r ∈ l, r.to < 18446744073709551616 := fun r hr => (hl r hr).2.2
    refine walk3 ?_
    refine aw_loopB [1, 2, 3, 4, 8] [0] (fun k : Nat => [(9, i64V k)]) (fun k => []) 1
      (fun k => k ≤ l.length) (fun k => l.length - k) 0 (by omega) ?_
    intro k hk
    dsimp only [List.cons_append, List.nil_append]
    by_cases hlt : k < l.length
    · obtain ⟨r, hr⟩ : ∃ r, l[k]? = some r := ⟨_, List.getElem?_eq_getElem hlt⟩
      have hrk := rec_at hr
      have cf := few_a r.v (hl r (List.mem_of_getElem? hr)).1
      cases hf : fewP r.v
      · rw [hf] at cf
        refine walk3 ?_
        exact fin
      · rw [hf] at cf
        refine walk3 ?_
        exact ⟨k + 1, by omega, by omega, wkR hC.m []⟩
    · have hom := or_lt o more ho hm
      have sl1 := seenP_len' c o l
      have sl2 := seenP_len' c (o ||| more) l
      have c1 := fseen_a c hc.cl o ho l (by omega) hto
      have cj := rjoin_a o more ho hm
      have c2 := fseen_a c hc.cl (o ||| more) hom l (by omega) hto
      have c3 := rseen_a c hc.cl o ho l (by omega) hto
      have c4 := rall_a (seenP c o l) (by omega) (fun r hr => (hl r (seenP_sub hr)).1)
      have c5 := fseen_a c hc.cl o ho (seenP c (o ||| more) l) (by omega) (fun r hr => hto r (seenP_sub hr))
      rw [seenP_less] at c5
      refine walk3 ?_
      refine aw_loopB [1, 8] [] (fun k : Nat => [(12, i64V k)]) (fun k => []) 1
        (fun k => k ≤ l.length) (fun k => l.length - k) 0 (by omega) ?_
      intro k hk
      dsimp only [List.cons_append, List.nil_append]
      by_cases hlt : k < l.length
      · obtain ⟨r, hr⟩ : ∃ r, l[k]? = some r := ⟨_, List.getElem?_eq_getElem hlt⟩
        obtain ⟨r0, hr0⟩ : ∃ r, l[0]? = some r := ⟨_, List.getElem?_eq_getElem (by omega)⟩
        have hrk := rec_at hr
        have hr0k : (l.map recV)[(0 : Int).toNat]? = some (recV r0) := rec_at hr0
        have d1 := fsame_a r0 r
        have d2 := rsame_a r0 r (hl r0 (List.mem_of_getElem? hr0)).1 (hl r (List.mem_of_getElem? hr)).1
        cases hs : sameR r0 r
        · rw [hs] at d1 d2
          refine walk3 ?_
          exact ⟨k + 1, by omega, by omega, wkR hC.m []⟩
        · rw [hs] at d1 d2
          refine walk3 ?_
          exact ⟨k + 1, by omega, by omega, wkR hC.m []⟩
      · refine walk3 ?_
        exact fin
  · refine walk3 ?_
    exact fin
end Go.Proofs.Ytfnbhkeilcbmjaa
