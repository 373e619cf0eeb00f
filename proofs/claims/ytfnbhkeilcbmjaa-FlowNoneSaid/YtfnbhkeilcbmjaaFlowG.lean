/- Flow: the records that an observer sees; few records; the law's example. -/
import Derived.Test.YtfnbhkeilcbmjaaFlowF
namespace Go.Proofs.Ytfnbhkeilcbmjaa
set_option linter.unusedVariables false
open Go.RowKit

theorem seenP_yes {c : Cfg} {o : Nat} {l : List Rec} {k : Nat} {r : Rec} (h : l[k]? = some r) (hf : flowsN (goesTo c r) o = true) : (seenP c o (l.take k)).map recV ++ [recV r] = (seenP c o (l.take (k + 1))).map recV := by
  rw [List.take_add_one, h]
  simp [seenP, hf]
theorem seenP_no {c : Cfg} {o : Nat} {l : List Rec} {k : Nat} {r : Rec} (h : l[k]? = some r) (hf : flowsN (goesTo c r) o = false) : seenP c o (l.take k) = seenP c o (l.take (k + 1)) := by
  rw [List.take_add_one, h]
  simp [seenP, hf]
theorem seenP_len (c : Cfg) (o : Nat) (l : List Rec) (k : Nat) : (seenP c o (l.take k)).length ≤ k := by
  refine Nat.le_trans (List.length_filter_le _ _) ?_
  rw [List.length_take]; omega
set_option maxHeartbeats 4000000 in
set_option maxRecDepth 10000 in
theorem fseen_a (c : Cfg) (hc : CfgOK c) (o : Nat) (ho : o < 18446744073709551616) (l : List Rec) (hl : l.length ≤ 100000) (hto : ∀ r ∈ l, r.to < 18446744073709551616) :
    ACalls Try.prog 22 [.agg (cfgV c), .sl 8 (l.map recV), labV o] (.sl 8 ((seenP c o l).map recV)) := by
  have hL : (((l.map recV).length : Nat) : Int) = (l.length : Nat) := by simp
  refine acalls_of code_flow_Seen (by simp [fn_flow_Seen]) fun C hC => ?_
  refine walk3 ?_
  refine aw_nil 7 52 8 rfl ?_
  refine aw_loopB [1, 2, 3, 6, 11, 12] [0] (fun k : Nat => [(13, i64V k), (7, .own 1)]) (fun k => [(1, some ⟨true, false, 52, 8, (seenP c o (l.take k)).map recV⟩)]) 2
      (fun k => k ≤ l.length) (fun k => l.length - k) 0 (by omega) ?_
  intro k hk
  dsimp only [List.cons_append, List.nil_append]
  by_cases hlt : k < l.length
  · obtain ⟨r, hr⟩ : ∃ r, l[k]? = some r := ⟨_, List.getElem?_eq_getElem hlt⟩
    have hrk := rec_at hr
    have hro := hto r (List.mem_of_getElem? hr)
    have hsl := seenP_len c o l k
    have hb : (((seenP c o (l.take k)).map recV).length + 1) * 96 ≤ 140737488355328 := by rw [List.length_map]; omega
    by_cases h1 : r.kind = 1
    · by_cases h2 : 0 ≤ r.port
      · by_cases h3 : r.port < 8
        · have e1 := cfg_cl c r.port.toNat (by omega)
          have cf := flows_a (c.cl r.port.toNat) o (hc.cl _) ho
          have hg : goesTo c r = c.cl r.port.toNat := by simp only [goesTo]; first | rw [if_pos (by omega)] | rw [if_neg (by omega), if_pos (by omega)] | rw [if_neg (by omega), if_neg (by omega)]
          cases hf : flowsN (c.cl r.port.toNat) o
          · rw [hf] at cf
            rw [← hg] at hf
            have hs := seenP_no hr hf
            refine walk3 ?_
            exact ⟨k + 1, by omega, by omega, wkR hC.m [] (by rw [← hs]; rfl)⟩
          · rw [hf] at cf
            rw [← hg] at hf
            have hs := seenP_yes hr hf
            refine walk3 ?_
            exact ⟨k + 1, by omega, by omega, wkR hC.m [(1, 4)] (by rw [← hs]; rfl)⟩
        · have cf := flows_a (c.cl 0) o (hc.cl _) ho
          have hg : goesTo c r = c.cl 0 := by simp only [goesTo]; first | rw [if_pos (by omega)] | rw [if_neg (by omega), if_pos (by omega)] | rw [if_neg (by omega), if_neg (by omega)]
          cases hf : flowsN (c.cl 0) o
          · rw [hf] at cf
            rw [← hg] at hf
            have hs := seenP_no hr hf
            refine walk3 ?_
            exact ⟨k + 1, by omega, by omega, wkR hC.m [] (by rw [← hs]; rfl)⟩
          · rw [hf] at cf
            rw [← hg] at hf
            have hs := seenP_yes hr hf
            refine walk3 ?_
            exact ⟨k + 1, by omega, by omega, wkR hC.m [(1, 4)] (by rw [← hs]; rfl)⟩
      · have cf := flows_a (c.cl 0) o (hc.cl _) ho
        have hg : goesTo c r = c.cl 0 := by simp only [goesTo]; first | rw [if_pos (by omega)] | rw [if_neg (by omega), if_pos (by omega)] | rw [if_neg (by omega), if_neg (by omega)]
        cases hf : flowsN (c.cl 0) o
        · rw [hf] at cf
          rw [← hg] at hf
          have hs := seenP_no hr hf
          refine walk3 ?_
          exact ⟨k + 1, by omega, by omega, wkR hC.m [] (by rw [← hs]; rfl)⟩
        · rw [hf] at cf
          rw [← hg] at hf
          have hs := seenP_yes hr hf
          refine walk3 ?_
          exact ⟨k + 1, by omega, by omega, wkR hC.m [(1, 4)] (by rw [← hs]; rfl)⟩
    · by_cases h4 : r.kind = 2
      · have cf := flows_a (r.to) o hro ho
        have hg : goesTo c r = r.to := by simp only [goesTo]; first | rw [if_pos (by omega)] | rw [if_neg (by omega), if_pos (by omega)] | rw [if_neg (by omega), if_neg (by omega)]
        cases hf : flowsN (r.to) o
        · rw [hf] at cf
          rw [← hg] at hf
          have hs := seenP_no hr hf
          refine walk3 ?_
          exact ⟨k + 1, by omega, by omega, wkR hC.m [] (by rw [← hs]; rfl)⟩
        · rw [hf] at cf
          rw [← hg] at hf
          have hs := seenP_yes hr hf
          refine walk3 ?_
          exact ⟨k + 1, by omega, by omega, wkR hC.m [(1, 4)] (by rw [← hs]; rfl)⟩
      · have cf := flows_a (c.cl 0) o (hc.cl _) ho
        have hg : goesTo c r = c.cl 0 := by simp only [goesTo]; first | rw [if_pos (by omega)] | rw [if_neg (by omega), if_pos (by omega)] | rw [if_neg (by omega), if_neg (by omega)]
        cases hf : flowsN (c.cl 0) o
        · rw [hf] at cf
          rw [← hg] at hf
          have hs := seenP_no hr hf
          refine walk3 ?_
          exact ⟨k + 1, by omega, by omega, wkR hC.m [] (by rw [← hs]; rfl)⟩
        · rw [hf] at cf
          rw [← hg] at hf
          have hs := seenP_yes hr hf
          refine walk3 ?_
          exact ⟨k + 1, by omega, by omega, wkR hC.m [(1, 4)] (by rw [← hs]; rfl)⟩
  · have he : l.take k = l := List.take_of_length_le (by omega)
    rw [he]
    refine aw_freeze 1 rfl ?_
    refine walk3 ?_
    exact fin
set_option maxHeartbeats 4000000 in
set_option maxRecDepth 10000 in
theorem rseen_a (c : Cfg) (hc : CfgOK c) (o : Nat) (ho : o < 18446744073709551616) (l : List Rec) (hl : l.length ≤ 100000) (hto : ∀ r ∈ l, r.to < 18446744073709551616) :
    ACalls Try.prog 23 [.agg (cfgV c), .sl 8 (l.map recV), labV o] (.sl 8 ((seenP c o l).map recV)) := by
  have hL : (((l.map recV).length : Nat) : Int) = (l.length : Nat) := by simp
  refine acalls_of code_scrimref25_Seen (by simp [fn_scrimref25_Seen]) fun C hC => ?_
  refine walk3 ?_
  refine aw_nil 7 52 8 rfl ?_
  refine aw_loopB [1, 2, 3, 6] [0] (fun k : Nat => [(8, i64V k), (7, .own 1)]) (fun k => [(1, some ⟨true, false, 52, 8, (seenP c o (l.take k)).map recV⟩)]) 2
      (fun k => k ≤ l.length) (fun k => l.length - k) 0 (by omega) ?_
  intro k hk
  dsimp only [List.cons_append, List.nil_append]
  by_cases hlt : k < l.length
  · obtain ⟨r, hr⟩ : ∃ r, l[k]? = some r := ⟨_, List.getElem?_eq_getElem hlt⟩
    have hrk := rec_at hr
    have hro := hto r (List.mem_of_getElem? hr)
    have hsl := seenP_len c o l k
    have hb : (((seenP c o (l.take k)).map recV).length + 1) * 96 ≤ 140737488355328 := by rw [List.length_map]; omega
    by_cases h1 : r.kind = 1
    · by_cases h2 : 0 ≤ r.port
      · by_cases h3 : r.port < 8
        · have e1 := cfg_cl c r.port.toNat (by omega)
          have cf := rflows_a (c.cl r.port.toNat) o (hc.cl _) ho
          have hg : goesTo c r = c.cl r.port.toNat := by simp only [goesTo]; first | rw [if_pos (by omega)] | rw [if_neg (by omega), if_pos (by omega)] | rw [if_neg (by omega), if_neg (by omega)]
          cases hf : flowsN (c.cl r.port.toNat) o
          · rw [hf] at cf
            rw [← hg] at hf
            have hs := seenP_no hr hf
            refine walk3 ?_
            exact ⟨k + 1, by omega, by omega, wkR hC.m [] (by rw [← hs]; rfl)⟩
          · rw [hf] at cf
            rw [← hg] at hf
            have hs := seenP_yes hr hf
            refine walk3 ?_
            exact ⟨k + 1, by omega, by omega, wkR hC.m [(1, 3)] (by rw [← hs]; rfl)⟩
        · have cf := rflows_a (c.cl 0) o (hc.cl _) ho
          have hg : goesTo c r = c.cl 0 := by simp only [goesTo]; first | rw [if_pos (by omega)] | rw [if_neg (by omega), if_pos (by omega)] | rw [if_neg (by omega), if_neg (by omega)]
          cases hf : flowsN (c.cl 0) o
          · rw [hf] at cf
            rw [← hg] at hf
            have hs := seenP_no hr hf
            refine walk3 ?_
            exact ⟨k + 1, by omega, by omega, wkR hC.m [] (by rw [← hs]; rfl)⟩
          · rw [hf] at cf
            rw [← hg] at hf
            have hs := seenP_yes hr hf
            refine walk3 ?_
            exact ⟨k + 1, by omega, by omega, wkR hC.m [(1, 3)] (by rw [← hs]; rfl)⟩
      · have cf := rflows_a (c.cl 0) o (hc.cl _) ho
        have hg : goesTo c r = c.cl 0 := by simp only [goesTo]; first | rw [if_pos (by omega)] | rw [if_neg (by omega), if_pos (by omega)] | rw [if_neg (by omega), if_neg (by omega)]
        cases hf : flowsN (c.cl 0) o
        · rw [hf] at cf
          rw [← hg] at hf
          have hs := seenP_no hr hf
          refine walk3 ?_
          exact ⟨k + 1, by omega, by omega, wkR hC.m [] (by rw [← hs]; rfl)⟩
        · rw [hf] at cf
          rw [← hg] at hf
          have hs := seenP_yes hr hf
          refine walk3 ?_
          exact ⟨k + 1, by omega, by omega, wkR hC.m [(1, 3)] (by rw [← hs]; rfl)⟩
    · by_cases h4 : r.kind = 2
      · have cf := rflows_a (r.to) o hro ho
        have hg : goesTo c r = r.to := by simp only [goesTo]; first | rw [if_pos (by omega)] | rw [if_neg (by omega), if_pos (by omega)] | rw [if_neg (by omega), if_neg (by omega)]
        cases hf : flowsN (r.to) o
        · rw [hf] at cf
          rw [← hg] at hf
          have hs := seenP_no hr hf
          refine walk3 ?_
          exact ⟨k + 1, by omega, by omega, wkR hC.m [] (by rw [← hs]; rfl)⟩
        · rw [hf] at cf
          rw [← hg] at hf
          have hs := seenP_yes hr hf
          refine walk3 ?_
          exact ⟨k + 1, by omega, by omega, wkR hC.m [(1, 3)] (by rw [← hs]; rfl)⟩
      · have cf := rflows_a (c.cl 0) o (hc.cl _) ho
        have hg : goesTo c r = c.cl 0 := by simp only [goesTo]; first | rw [if_pos (by omega)] | rw [if_neg (by omega), if_pos (by omega)] | rw [if_neg (by omega), if_neg (by omega)]
        cases hf : flowsN (c.cl 0) o
        · rw [hf] at cf
          rw [← hg] at hf
          have hs := seenP_no hr hf
          refine walk3 ?_
          exact ⟨k + 1, by omega, by omega, wkR hC.m [] (by rw [← hs]; rfl)⟩
        · rw [hf] at cf
          rw [← hg] at hf
          have hs := seenP_yes hr hf
          refine walk3 ?_
          exact ⟨k + 1, by omega, by omega, wkR hC.m [(1, 3)] (by rw [← hs]; rfl)⟩
  · have he : l.take k = l := List.take_of_length_le (by omega)
    rw [he]
    refine aw_freeze 1 rfl ?_
    refine walk3 ?_
    exact fin
end Go.Proofs.Ytfnbhkeilcbmjaa
