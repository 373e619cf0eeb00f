/- Flow: records compared; the records that an observer sees. -/
import Derived.Test.YtfnbhkeilcbmjaaFlowC
import Derived.Test.YtfnbhkeilcbmjaaSameP
import Derived.Test.YtfnbhkeilcbmjaaEqFP
import Derived.Test.YtfnbhkeilcbmjaaFewP
namespace Go.Proofs.Ytfnbhkeilcbmjaa
set_option linter.unusedVariables false
open Go.RowKit

mutual
theorem arrOK.relab {g : Nat → Nat} (hg : ∀ a, a < 18446744073709551616 → g a < 18446744073709551616) : ∀ {A : Arr}, arrOK A → arrOK (relabA g A)
  | .mk s sh cs, h => by
    simp only [arrOK] at h
    simp only [relabA, arrOK, relabCs_map, List.length_map]
    exact ⟨hg _ h.1, h.2.1, h.2.2.1, h.2.2.2.1, by rw [← relabCs_map]; exact cellsOK.relab hg h.2.2.2.2⟩
theorem cellsOK.relab {g : Nat → Nat} (hg : ∀ a, a < 18446744073709551616 → g a < 18446744073709551616) : ∀ {A : List Cell}, cellsOK A → cellsOK (relabCs g A)
  | [], h => by simp [relabCs, cellsOK]
  | c :: cs, h => by
    simp only [cellsOK] at h
    simp only [relabCs, cellsOK]
    exact ⟨cellOK.relab hg h.1, cellsOK.relab hg h.2⟩
theorem cellOK.relab {g : Nat → Nat} (hg : ∀ a, a < 18446744073709551616 → g a < 18446744073709551616) : ∀ {A : Cell}, cellOK A → cellOK (relabC g A)
  | .mk l k n c ins, h => by
    simp only [cellOK] at h
    simp only [relabC, cellOK, relabAs_map, List.length_map]
    exact ⟨hg _ h.1, h.2.1, h.2.2.1, h.2.2.2.1, h.2.2.2.2.1, by rw [← relabAs_map]; exact arrsOK.relab hg h.2.2.2.2.2⟩
theorem arrsOK.relab {g : Nat → Nat} (hg : ∀ a, a < 18446744073709551616 → g a < 18446744073709551616) : ∀ {A : List Arr}, arrsOK A → arrsOK (relabAs g A)
  | [], h => by simp [relabAs, arrsOK]
  | c :: cs, h => by
    simp only [arrsOK] at h
    simp only [relabAs, arrsOK]
    exact ⟨arrOK.relab hg h.1, arrsOK.relab hg h.2⟩
end

def sameR (a b : Rec) : Bool := (a.kind == b.kind) && ((a.port == b.port) && ((a.fro == b.fro) && ((a.to == b.to) && ((a.cls == b.cls) && sameA a.v b.v))))
theorem sameR_refl (a : Rec) : sameR a a = true := by simp [sameR, sameA_refl]
set_option maxHeartbeats 4000000 in
set_option maxRecDepth 10000 in
theorem fsame_a (a b : Rec) : ACalls Try.prog 24 [.agg (recV a), .agg (recV b)] (.lit (.bool (sameR a b))) := by
  have c6 := arraySame_a a.v b.v
  refine acalls_of code_flow_Same (by simp [fn_flow_Same]) fun C hC => ?_
  unfold sameR
  by_cases h1 : a.kind = b.kind
  · rw [h1, beq_self_eq_true, Bool.true_and]
    by_cases h2 : a.port = b.port
    · rw [h2, beq_self_eq_true, Bool.true_and]
      by_cases h3 : a.fro = b.fro
      · rw [h3, beq_self_eq_true, Bool.true_and]
        by_cases h4 : a.to = b.to
        · rw [h4, beq_self_eq_true, Bool.true_and]
          by_cases h5 : a.cls = b.cls
          · rw [h5, beq_self_eq_true, Bool.true_and]
            cases h6 : sameA a.v b.v
            · rw [h6] at c6
              refine walk3 ?_
              exact fin
            · rw [h6] at c6
              refine walk3 ?_
              exact fin
          · rw [int_beq_ne h5, Bool.false_and]
            refine walk3 ?_
            exact fin
        · rw [nat_beq_ne h4, Bool.false_and]
          refine walk3 ?_
          exact fin
      · rw [nat_beq_ne h3, Bool.false_and]
        refine walk3 ?_
        exact fin
    · rw [int_beq_ne h2, Bool.false_and]
      refine walk3 ?_
      exact fin
  · rw [int_beq_ne h1, Bool.false_and]
    refine walk3 ?_
    exact fin

set_option maxHeartbeats 4000000 in
set_option maxRecDepth 10000 in
theorem rsame_a (a b : Rec) (ha : arrOK a.v) (hb : arrOK b.v) : ACalls Try.prog 25 [.agg (recV a), .agg (recV b)] (.lit (.bool (sameR a b))) := by
  have c6 := same_a a.v b.v ha hb
  refine acalls_of code_scrimref25_Same (by simp [fn_scrimref25_Same]) fun C hC => ?_
  unfold sameR
  by_cases h1 : a.kind = b.kind
  · rw [h1, beq_self_eq_true, Bool.true_and]
    by_cases h2 : a.port = b.port
    · rw [h2, beq_self_eq_true, Bool.true_and]
      by_cases h3 : a.fro = b.fro
      · rw [h3, beq_self_eq_true, Bool.true_and]
        by_cases h4 : a.to = b.to
        · rw [h4, beq_self_eq_true, Bool.true_and]
          by_cases h5 : a.cls = b.cls
          · rw [h5, beq_self_eq_true, Bool.true_and]
            cases h6 : sameA a.v b.v
            · rw [h6] at c6
              refine walk3 ?_
              exact fin
            · rw [h6] at c6
              refine walk3 ?_
              exact fin
          · rw [int_beq_ne h5, Bool.false_and]
            refine walk3 ?_
            exact fin
        · rw [nat_beq_ne h4, Bool.false_and]
          refine walk3 ?_
          exact fin
      · rw [nat_beq_ne h3, Bool.false_and]
        refine walk3 ?_
        exact fin
    · rw [int_beq_ne h2, Bool.false_and]
      refine walk3 ?_
      exact fin
  · rw [int_beq_ne h1, Bool.false_and]
    refine walk3 ?_
    exact fin

theorem rec_at {l : List Rec} {k : Nat} {r : Rec} (h : l[k]? = some r) : (l.map recV)[k]? = some (recV r) := by simp [h]
set_option maxHeartbeats 4000000 in
set_option maxRecDepth 10000 in
theorem rall_a (l : List Rec) (hl : l.length ≤ 100000) (ho : ∀ r ∈ l, arrOK r.v) : ACalls Try.prog 12 [.sl 8 (l.map recV), .sl 8 (l.map recV)] (.lit (.bool true)) := by
  have hL : (((l.map recV).length : Nat) : Int) = (l.length : Nat) := by simp
  refine acalls_of code_scrimref25_All (by simp [fn_scrimref25_All]) fun C hC => ?_
  refine walk3 ?_
  refine aw_loopB [0, 1, 4] [] (fun k : Nat => [(5, i64V k)]) (fun k => []) 0
      (fun k => k ≤ l.length) (fun k => l.length - k) 0 (by omega) ?_
  intro k hk
  dsimp only [List.cons_append, List.nil_append]
  by_cases hlt : k < l.length
  · obtain ⟨r, hr⟩ : ∃ r, l[k]? = some r := ⟨_, List.getElem?_eq_getElem hlt⟩
    have hrk := rec_at hr
    have hro := ho r (List.mem_of_getElem? hr)
    have c1 := rsame_a r r hro hro
    rw [sameR_refl] at c1
    refine walk3 ?_
    exact ⟨k + 1, by omega, by omega, wkR hC.m []⟩
  · refine walk3 ?_
    exact fin
/-- where a record goes -/
def goesTo (c : Cfg) (r : Rec) : Nat := if r.kind = 1 ∧ 0 ≤ r.port ∧ r.port ≤ 7 then c.cl r.port.toNat else if r.kind = 2 then r.to else c.cl 0
def seenP (c : Cfg) (o : Nat) (l : List Rec) : List Rec := l.filter fun r => flowsN (goesTo c r) o
end Go.Proofs.Ytfnbhkeilcbmjaa
namespace Go.Proofs.Ytfnbhkeilcbmjaa
set_option linter.unusedVariables false
open Go.RowKit

theorem seenP_yes {c : Cfg} {o : Nat} {l : List Rec} {k : Nat} {r : Rec} (h : l[k]? = some r) (hf : flowsN (goesTo c r) o = true) : (seenP c o (l.take k)).map recV ++ [recV r] = (seenP c o (l.take (k + 1))).map recV := by
  rw [List.take_add_one, h]
  simp [seenP, hf]
theorem seenP_no {c : Cfg} {o : Nat} {l : List Rec} {k : Nat} {r : Rec} (h : l[k]? = some r) (hf : flowsN (goesTo c r) o = false) : seenP c o (l.take k) = seenP c o (l.take (k + 1)) := by
  rw [List.take_add_one, h]
  simp [seenP, hf]
theorem seenP_len (c : Cfg) (o : Nat) (l : List Rec) (k : Nat) : (seenP c o (l.take k)).length ≤ k := by
  refine Nat.le_trans (List.length_filter_le _ _) ?_
  rw [List.length_take]; omega
set_option maxHeartbeats 4000000 in
set_option maxRecDepth 10000 in
theorem fseen_a (c : Cfg) (hcl : ∀ n, c.cl n < 18446744073709551616) (o : Nat) (ho : o < 18446744073709551616) (l : List Rec) (hl : l.length ≤ 100000) (hto : ∀ r ∈ l, r.to < 18446744073709551616) :
    ACalls Try.prog 22 [.agg (cfgV c), .sl 8 (l.map recV), labV o] (.sl 8 ((seenP c o l).map recV)) := by
  have hL : (((l.map recV).length : Nat) : Int) = (l.length : Nat) := by simp
  refine acalls_of code_flow_Seen (by simp [fn_flow_Seen]) fun C hC => ?_
  refine walk3 ?_
  refine aw_nil 7 52 8 rfl ?_
  refine aw_loopB [1, 2, 3, 6, 11, 12] [0] (fun k : Nat => [(13, i64V k), (7, .own 1)]) (fun k => [(1, some ⟨true, false, 52, 8, (seenP c o (l.take k)).map recV⟩)]) 2
      (fun k => k ≤ l.length) (fun k => l.length - k) 0 (by omega) ?_
  intro k hk
  dsimp only [List.cons_append, List.nil_append]
  by_cases hlt : k < l.length
  · obtain ⟨r, hr⟩ : ∃ r, l[k]? = some r := ⟨_, List.getElem?_eq_getElem hlt⟩
    have hrk := rec_at hr
    have hro := hto r (List.mem_of_getElem? hr)
    have hsl := seenP_len c o l k
    have hb : (((seenP c o (l.take k)).map recV).length + 1) * 96 ≤ 140737488355328 := by rw [List.length_map]; omega
    by_cases h1 : r.kind = 1
    · by_cases h2 : 0 ≤ r.port
      · by_cases h3 : r.port < 8
        · have e1 := cfg_cl c r.port.toNat (by omega)
          have cf := flows_a (c.cl r.port.toNat) o (hcl _) ho
          have hg : goesTo c r = c.cl r.port.toNat := by simp only [goesTo]; first | rw [if_pos (by omega)] | rw [if_neg (by omega), if_pos (by omega)] | rw [if_neg (by omega), if_neg (by omega)]
          cases hf : flowsN (c.cl r.port.toNat) o
          · rw [hf] at cf
            rw [← hg] at hf
            have hs := seenP_no hr hf
            refine walk3 ?_
            exact ⟨k + 1, by omega, by omega, wkR hC.m [] (by rw [← hs]; rfl)⟩
          · rw [hf] at cf
            rw [← hg] at hf
            have hs := seenP_yes hr hf
            refine walk3 ?_
            exact ⟨k + 1, by omega, by omega, wkR hC.m [(1, 4)] (by rw [← hs]; rfl)⟩
        · have cf := flows_a (c.cl 0) o (hcl _) ho
          have hg : goesTo c r = c.cl 0 := by simp only [goesTo]; first | rw [if_pos (by omega)] | rw [if_neg (by omega), if_pos (by omega)] | rw [if_neg (by omega), if_neg (by omega)]
          cases hf : flowsN (c.cl 0) o
          · rw [hf] at cf
            rw [← hg] at hf
            have hs := seenP_no hr hf
            refine walk3 ?_
            exact ⟨k + 1, by omega, by omega, wkR hC.m [] (by rw [← hs]; rfl)⟩
          · rw [hf] at cf
            rw [← hg] at hf
            have hs := seenP_yes hr hf
            refine walk3 ?_
            exact ⟨k + 1, by omega, by omega, wkR hC.m [(1, 4)] (by rw [← hs]; rfl)⟩
      · have cf := flows_a (c.cl 0) o (hcl _) ho
        have hg : goesTo c r = c.cl 0 := by simp only [goesTo]; first | rw [if_pos (by omega)] | rw [if_neg (by omega), if_pos (by omega)] | rw [if_neg (by omega), if_neg (by omega)]
        cases hf : flowsN (c.cl 0) o
        · rw [hf] at cf
          rw [← hg] at hf
          have hs := seenP_no hr hf
          refine walk3 ?_
          exact ⟨k + 1, by omega, by omega, wkR hC.m [] (by rw [← hs]; rfl)⟩
        · rw [hf] at cf
          rw [← hg] at hf
          have hs := seenP_yes hr hf
          refine walk3 ?_
          exact ⟨k + 1, by omega, by omega, wkR hC.m [(1, 4)] (by rw [← hs]; rfl)⟩
    · by_cases h4 : r.kind = 2
      · have cf := flows_a (r.to) o hro ho
        have hg : goesTo c r = r.to := by simp only [goesTo]; first | rw [if_pos (by omega)] | rw [if_neg (by omega), if_pos (by omega)] | rw [if_neg (by omega), if_neg (by omega)]
        cases hf : flowsN (r.to) o
        · rw [hf] at cf
          rw [← hg] at hf
          have hs := seenP_no hr hf
          refine walk3 ?_
          exact ⟨k + 1, by omega, by omega, wkR hC.m [] (by rw [← hs]; rfl)⟩
        · rw [hf] at cf
          rw [← hg] at hf
          have hs := seenP_yes hr hf
          refine walk3 ?_
          exact ⟨k + 1, by omega, by omega, wkR hC.m [(1, 4)] (by rw [← hs]; rfl)⟩
      · have cf := flows_a (c.cl 0) o (hcl _) ho
        have hg : goesTo c r = c.cl 0 := by simp only [goesTo]; first | rw [if_pos (by omega)] | rw [if_neg (by omega), if_pos (by omega)] | rw [if_neg (by omega), if_neg (by omega)]
        cases hf : flowsN (c.cl 0) o
        · rw [hf] at cf
          rw [← hg] at hf
          have hs := seenP_no hr hf
          refine walk3 ?_
          exact ⟨k + 1, by omega, by omega, wkR hC.m [] (by rw [← hs]; rfl)⟩
        · rw [hf] at cf
          rw [← hg] at hf
          have hs := seenP_yes hr hf
          refine walk3 ?_
          exact ⟨k + 1, by omega, by omega, wkR hC.m [(1, 4)] (by rw [← hs]; rfl)⟩
  · have he : l.take k = l := List.take_of_length_le (by omega)
    rw [he]
    refine aw_freeze 1 rfl ?_
    refine walk3 ?_
    exact fin
set_option maxHeartbeats 4000000 in
set_option maxRecDepth 10000 in
theorem rseen_a (c : Cfg) (hcl : ∀ n, c.cl n < 18446744073709551616) (o : Nat) (ho : o < 18446744073709551616) (l : List Rec) (hl : l.length ≤ 100000) (hto : ∀ r ∈ l, r.to < 18446744073709551616) :
    ACalls Try.prog 23 [.agg (cfgV c), .sl 8 (l.map recV), labV o] (.sl 8 ((seenP c o l).map recV)) := by
  have hL : (((l.map recV).length : Nat) : Int) = (l.length : Nat) := by simp
  refine acalls_of code_scrimref25_Seen (by simp [fn_scrimref25_Seen]) fun C hC => ?_
  refine walk3 ?_
  refine aw_nil 7 52 8 rfl ?_
  refine aw_loopB [1, 2, 3, 6] [0] (fun k : Nat => [(8, i64V k), (7, .own 1)]) (fun k => [(1, some ⟨true, false, 52, 8, (seenP c o (l.take k)).map recV⟩)]) 2
      (fun k => k ≤ l.length) (fun k => l.length - k) 0 (by omega) ?_
  intro k hk
  dsimp only [List.cons_append, List.nil_append]
  by_cases hlt : k < l.length
  · obtain ⟨r, hr⟩ : ∃ r, l[k]? = some r := ⟨_, List.getElem?_eq_getElem hlt⟩
    have hrk := rec_at hr
    have hro := hto r (List.mem_of_getElem? hr)
    have hsl := seenP_len c o l k
    have hb : (((seenP c o (l.take k)).map recV).length + 1) * 96 ≤ 140737488355328 := by rw [List.length_map]; omega
    by_cases h1 : r.kind = 1
    · by_cases h2 : 0 ≤ r.port
      · by_cases h3 : r.port < 8
        · have e1 := cfg_cl c r.port.toNat (by omega)
          have cf := rflows_a (c.cl r.port.toNat) o (hcl _) ho
          have hg : goesTo c r = c.cl r.port.toNat := by simp only [goesTo]; first | rw [if_pos (by omega)] | rw [if_neg (by omega), if_pos (by omega)] | rw [if_neg (by omega), if_neg (by omega)]
          cases hf : flowsN (c.cl r.port.toNat) o
          · rw [hf] at cf
            rw [← hg] at hf
            have hs := seenP_no hr hf
            refine walk3 ?_
            exact ⟨k + 1, by omega, by omega, wkR hC.m [] (by rw [← hs]; rfl)⟩
          · rw [hf] at cf
            rw [← hg] at hf
            have hs := seenP_yes hr hf
            refine walk3 ?_
            exact ⟨k + 1, by omega, by omega, wkR hC.m [(1, 3)] (by rw [← hs]; rfl)⟩
        · have cf := rflows_a (c.cl 0) o (hcl _) ho
          have hg : goesTo c r = c.cl 0 := by simp only [goesTo]; first | rw [if_pos (by omega)] | rw [if_neg (by omega), if_pos (by omega)] | rw [if_neg (by omega), if_neg (by omega)]
          cases hf : flowsN (c.cl 0) o
          · rw [hf] at cf
            rw [← hg] at hf
            have hs := seenP_no hr hf
            refine walk3 ?_
            exact ⟨k + 1, by omega, by omega, wkR hC.m [] (by rw [← hs]; rfl)⟩
          · rw [hf] at cf
            rw [← hg] at hf
            have hs := seenP_yes hr hf
            refine walk3 ?_
            exact ⟨k + 1, by omega, by omega, wkR hC.m [(1, 3)] (by rw [← hs]; rfl)⟩
      · have cf := rflows_a (c.cl 0) o (hcl _) ho
        have hg : goesTo c r = c.cl 0 := by simp only [goesTo]; first | rw [if_pos (by omega)] | rw [if_neg (by omega), if_pos (by omega)] | rw [if_neg (by omega), if_neg (by omega)]
        cases hf : flowsN (c.cl 0) o
        · rw [hf] at cf
          rw [← hg] at hf
          have hs := seenP_no hr hf
          refine walk3 ?_
          exact ⟨k + 1, by omega, by omega, wkR hC.m [] (by rw [← hs]; rfl)⟩
        · rw [hf] at cf
          rw [← hg] at hf
          have hs := seenP_yes hr hf
          refine walk3 ?_
          exact ⟨k + 1, by omega, by omega, wkR hC.m [(1, 3)] (by rw [← hs]; rfl)⟩
    · by_cases h4 : r.kind = 2
      · have cf := rflows_a (r.to) o hro ho
        have hg : goesTo c r = r.to := by simp only [goesTo]; first | rw [if_pos (by omega)] | rw [if_neg (by omega), if_pos (by omega)] | rw [if_neg (by omega), if_neg (by omega)]
        cases hf : flowsN (r.to) o
        · rw [hf] at cf
          rw [← hg] at hf
          have hs := seenP_no hr hf
          refine walk3 ?_
          exact ⟨k + 1, by omega, by omega, wkR hC.m [] (by rw [← hs]; rfl)⟩
        · rw [hf] at cf
          rw [← hg] at hf
          have hs := seenP_yes hr hf
          refine walk3 ?_
          exact ⟨k + 1, by omega, by omega, wkR hC.m [(1, 3)] (by rw [← hs]; rfl)⟩
      · have cf := rflows_a (c.cl 0) o (hcl _) ho
        have hg : goesTo c r = c.cl 0 := by simp only [goesTo]; first | rw [if_pos (by omega)] | rw [if_neg (by omega), if_pos (by omega)] | rw [if_neg (by omega), if_neg (by omega)]
        cases hf : flowsN (c.cl 0) o
        · rw [hf] at cf
          rw [← hg] at hf
          have hs := seenP_no hr hf
          refine walk3 ?_
          exact ⟨k + 1, by omega, by omega, wkR hC.m [] (by rw [← hs]; rfl)⟩
        · rw [hf] at cf
          rw [← hg] at hf
          have hs := seenP_yes hr hf
          refine walk3 ?_
          exact ⟨k + 1, by omega, by omega, wkR hC.m [(1, 3)] (by rw [← hs]; rfl)⟩
  · have he : l.take k = l := List.take_of_length_le (by omega)
    rw [he]
    refine aw_freeze 1 rfl ?_
    refine walk3 ?_
    exact fin
end Go.Proofs.Ytfnbhkeilcbmjaa
