/- Flow: ports are made, asked, and tell their records. -/
import Derived.Test.YtfnbhkeilcbmjaaFlowQ
namespace Go.Proofs.Ytfnbhkeilcbmjaa
set_option linter.unusedVariables false
open Go.RowKit

set_option maxRecDepth 10000 in
theorem none_a (c : Cfg) (rd dn : Nat → Int) (x : AV) (k : Int) (b : Bool) (hb : decide (k < 0 ∨ 7 < k) = b) :
    ACalls Try.prog 42 [.ep 53 [portsV c rd dn x] 0 0, i64V k] (.lit (.bool b)) := by
  have hu := Try.underlying33
  refine acalls_of code_flow_Ports_none (by simp [fn_flow_Ports_none]) fun C hC => ?_
  by_cases h0 : k < 0
  · have e : b = true := by rw [← hb]; simp; omega
    subst e
    refine walk3 ?_
    exact fin
  · by_cases h1 : k < 8
    · have e : b = false := by rw [← hb]; simp; omega
      subst e
      refine walk3 ?_
      exact fin
    · have e : b = true := by rw [← hb]; simp; omega
      subst e
      refine walk3 ?_
      exact fin

set_option maxRecDepth 10000 in
theorem none0_a (k : Int) : ACalls Try.prog 42 [.lit (.pointer none), i64V k] (.lit (.bool true)) := by
  have hu := Try.underlying33
  refine acalls_of code_flow_Ports_none (by simp [fn_flow_Ports_none]) fun C hC => ?_
  refine walk3 ?_
  exact fin

set_option maxRecDepth 10000 in
theorem new_m (c : Cfg) (h1 : ∀ k, k < 8 → (c.ins k).length ≤ 1000) (h2 : ∀ k, k < 8 → (c.dr k).length ≤ 1000) :
    AMut Try.prog 9 [.agg (cfgV c)] [] 0 (.optr 0 0 0) [(0, some (pBox c (fun _ => 0) (fun _ => 0) (.lit (.slice none 0 0))))] 1 := by
  refine amut_of code_flow_New (by simp [fn_flow_New]) fun C hC => ?_
  refine walk3 ?_
  refine aw_loopB [1] [0] (fun k : Nat => [(4, i64V k)]) (fun k => []) 1
      (fun k => k ≤ 8) (fun k => 8 - k) 0 (by omega) ?_
  intro k hk
  dsimp only [List.cons_append, List.nil_append]
  by_cases hlt : k < 8
  · have hz : ((k : Nat) : Int).toNat = k := by omega
    have c1 := cloneArr_a ((c.ins k).map arrR) (by have := h1 k hlt; simp; omega)
    have c2 := cloneInt_a (intsA .i64 (c.dr k)) (by have := h2 k hlt; simp [intsA]; omega)
    have e1 : (cfgV c)[0 + 8 + ((k : Nat) : Int).toNat * 1]? = some (insV c k) := cfg_in c k hlt
    have e2 : (cfgV c).take (0 + 8 + ((k : Nat) : Int).toNat * 1) ++ ([insV c k] ++ (cfgV c).drop (0 + 8 + ((k : Nat) : Int).toNat * 1 + 1)) = cfgV c := cfg_in_set c k hlt
    have e3 : Nat.ble (0 + 8 + ((k : Nat) : Int).toNat * 1 + 1) (cfgV c).length = true := cfg_le c k 8 hlt (by omega)
    have e4 : (cfgV c)[0 + 24 + ((k : Nat) : Int).toNat * 1]? = some (drV c k) := cfg_dr c k hlt
    have e5 : (cfgV c).take (0 + 24 + ((k : Nat) : Int).toNat * 1) ++ ([drV c k] ++ (cfgV c).drop (0 + 24 + ((k : Nat) : Int).toNat * 1 + 1)) = cfgV c := cfg_dr_set c k hlt
    have e6 : Nat.ble (0 + 24 + ((k : Nat) : Int).toNat * 1 + 1) (cfgV c).length = true := cfg_le c k 24 hlt (by omega)
    refine walk3 ?_
    exact ⟨k + 1, by omega, by omega, wkR hC.m []⟩
  · refine walk3 ?_
    exact fin_m [(0, 1)]

set_option maxRecDepth 10000 in
theorem cloneRec_m (es : List (List AV)) (hb : es.length ≤ 1000000000) : AMut Try.prog 39 [.own 0] [(0, some ⟨true, false, 52, 8, es⟩)] 1 (.sl 8 es) [(0, some ⟨true, false, 52, 8, es⟩)] 1 := by
  refine amut_of code_slices_Clone_api_Record (by simp [fn_slices_Clone_api_Record]) fun C hC => ?_
  refine aw_postW ?_
  by_cases hn : 0 < es.length
  · refine walk3 ?_
    refine aw_reg (rrun3 ?_)
    refine r_eqvO Try.underlying37 hn ?_
    refine rrun3 ?_
    refine rg_nil ⟨rfl, ?_⟩
    refine walk3 ?_
    exact ⟨_, (weak_freeze 2 rfl).trans (weak_view 2 rfl rfl), fin_m []⟩
  · have e0 : es = [] := List.eq_nil_of_length_eq_zero (by omega)
    subst e0
    refine walk3 ?_
    refine aw_valO 0 0 rfl rfl rfl fun a cap => ?_
    cases a with
    | none =>
      refine aw_reg (rrun3 ?_)
      refine r_eqvS Try.underlying37 (rrun3 ?_)
      refine rg_nil ⟨rfl, ?_⟩
      refine walk3 ?_
      exact ⟨_, weak_nilS 2 8 rfl, fin_m []⟩
    | some x =>
      refine aw_reg (rrun3 ?_)
      refine r_eqvS Try.underlying37 (rrun3 ?_)
      refine rg_nil ⟨rfl, ?_⟩
      refine aw_say 0 rfl (b := .sl 8 []) (fun E w v h => ⟨some x, cap, [], h, Nat.zero_le _, fun h => (by cases h), Nat.zero_le _, fun i v h => (by cases h), fun u h => (by cases h), rfl⟩) ?_
      refine walk3 ?_
      exact ⟨_, (weak_freeze 2 rfl).trans (weak_view 2 rfl rfl), fin_m []⟩

set_option maxRecDepth 10000 in
theorem records_m (c : Cfg) (rd dn : Nat → Int) (l : List Rec) (hl : l.length ≤ 100000) :
    AMut Try.prog 13 [.optr 0 0 0] [(0, some (pBox c rd dn (.own 1))), (1, some (recRow l))] 2 (.sl 8 (l.map recV)) [(0, some (pBox c rd dn (.own 1))), (1, some (recRow l))] 2 := by
  have hu := Try.underlying33
  have c1 := cloneRec_m (l.map recV) (by simp; omega)
  refine amut_of code_flow_Ports_Records (by simp [fn_flow_Ports_Records]) fun C hC => ?_
  refine walk3 ?_
  refine aw_reg (rrun3 ?_)
  refine r_callM [(1, 0)] c1 ?_
  refine rrun3 ?_
  refine rg_nil ⟨rfl, ?_⟩
  refine walk3 ?_
  exact fin_m []
theorem records0_a : ACalls Try.prog 13 [.lit (.pointer none)] (.sl 8 []) := by
  have hu := Try.underlying33
  refine acalls_of code_flow_Ports_Records (by simp [fn_flow_Ports_Records]) fun C hC => ?_
  refine walk3 ?_
  exact fin
end Go.Proofs.Ytfnbhkeilcbmjaa
