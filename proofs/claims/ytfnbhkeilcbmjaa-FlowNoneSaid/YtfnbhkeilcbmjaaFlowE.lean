/- Flow: what the document's ports record. -/
import Derived.Test.YtfnbhkeilcbmjaaFlowD
namespace Go.Proofs.Ytfnbhkeilcbmjaa
set_option linter.unusedVariables false
open Go.RowKit

set_option maxHeartbeats 4000000 in
set_option maxRecDepth 10000 in
theorem rsend_no (c : Cfg) (hc : CfgOK c) (rd dn : Nat → Int) (l : List Rec) (k : Int) (A : Arr) (hA : okA A) (pc : Nat) (hpc : pc < 18446744073709551616) (hno : (sendP c l k A pc).2 ≠ 0) :
    AMut Try.prog 36 [.optr 0 0 0, i64V k, .agg (arrV A), labV pc] [(0, some (rBox c rd dn (.own 1))), (1, some (recRow l))] 2
      (i64V (sendP c l k A pc).2) [(0, some (rBox c rd dn (.own 1))), (1, some (recRow l))] 2 := by
  unfold sendP at hno ⊢
  by_cases hk : k < 0 ∨ 7 < k
  · rw [if_pos hk]
    refine amut_of code_scrimref25_Ports_Send (by simp [fn_scrimref25_Ports_Send]) fun C hC => ?_
    by_cases h0 : k < 0
    · refine walk3 ?_
      exact fin_m []
    · refine walk3 ?_
      exact fin_m []
  · rw [if_neg hk] at hno ⊢
    obtain ⟨h0, h1, h2⟩ := not_bad hk
    have e1 := r_cl c rd dn (.own 1) k.toNat h2
    have ct := rtotal_a A hA
    have cj := rjoin_a pc (totA A) hpc (totA_lt A hA)
    have cf := rmay_a c rd dn (.sl 8 (l.map recV)) (pc ||| totA A) (c.cl k.toNat) (or_lt _ _ hpc (totA_lt A hA)) (hc.cl _)
    cases hf : flowsN (pc ||| totA A) (c.cl k.toNat)
    · rw [hf] at cf
      rw [if_pos rfl]
      refine amut_of code_scrimref25_Ports_Send (by simp [fn_scrimref25_Ports_Send]) fun C hC => ?_
      refine walk3 ?_
      exact fin_m []
    · rw [hf] at hno
      simp at hno

set_option maxHeartbeats 4000000 in
set_option maxRecDepth 10000 in
theorem rsend_m (c : Cfg) (hc : CfgOK c) (rd dn : Nat → Int) (l : List Rec) (hl : l.length ≤ 100000) (k : Int) (A : Arr) (hA : okA A) (pc : Nat) (hpc : pc < 18446744073709551616) (hok : (sendP c l k A pc).2 = 0) :
    AMut Try.prog 36 [.optr 0 0 0, i64V k, .agg (arrV A), labV pc] [(0, some (rBox c rd dn (.own 1))), (1, some (recRow l))] 2
      (i64V 0) [(0, some (rBox c rd dn (.own 2))), (1, none), (2, some (recRow (sendP c l k A pc).1))] 3 := by
  unfold sendP at hok ⊢
  by_cases hk : k < 0 ∨ 7 < k
  · rw [if_pos hk] at hok
    simp at hok
  · rw [if_neg hk] at hok ⊢
    obtain ⟨h0, h1, h2⟩ := not_bad hk
    have e1 := r_cl c rd dn (.own 1) k.toNat h2
    have ct := rtotal_a A hA
    have cj := rjoin_a pc (totA A) hpc (totA_lt A hA)
    have ce := r8Erase_a A hA
    have cf := rmay_a c rd dn (.sl 8 (l.map recV)) (pc ||| totA A) (c.cl k.toNat) (or_lt _ _ hpc (totA_lt A hA)) (hc.cl _)
    cases hf : flowsN (pc ||| totA A) (c.cl k.toNat)
    · rw [hf] at hok
      simp at hok
    · rw [hf] at cf
      rw [if_neg (by simp)]
      have hb : ((l.map recV).length + 1) * 96 ≤ 140737488355328 := by simp; omega
      have er : (l ++ [(⟨1, k, 0, 0, 0, eraA A⟩ : Rec)]).map recV = l.map recV ++ [recV ⟨1, k, 0, 0, 0, eraA A⟩] := by simp
      refine amut_of code_scrimref25_Ports_Send (by simp [fn_scrimref25_Ports_Send]) fun C hC => ?_
      rw [recRow, er]
      refine walk3 ?_
      exact fin_m [(2, 4)]

set_option maxHeartbeats 4000000 in
set_option maxRecDepth 10000 in
theorem rrele_no (c : Cfg) (hc : CfgOK c) (rd dn : Nat → Int) (l : List Rec) (to : Nat) (hto : to < 18446744073709551616) (A : Arr) (hA : okA A) (pc : Nat) (hpc : pc < 18446744073709551616) (hno : (releP c l to A pc).2.2 ≠ 0) :
    AMut Try.prog 37 [.optr 0 0 0, labV to, .agg (arrV A), labV pc] [(0, some (rBox c rd dn (.own 1))), (1, some (recRow l))] 2
      (.tup [.agg (arrV (releP c l to A pc).2.1), i64V (releP c l to A pc).2.2]) [(0, some (rBox c rd dn (.own 1))), (1, some (recRow l))] 2 := by
  have ct := rtotal_a A hA
  have cj := rjoin_a to c.au hto hc.au
  have cm := rmay_a c rd dn (.sl 8 (l.map recV)) (totA A) (to ||| c.au) (totA_lt A hA) (or_lt _ _ hto hc.au)
  unfold releP at hno ⊢
  cases h1 : flowsN (totA A) (to ||| c.au)
  · rw [h1] at cm
    rw [if_pos (.inl rfl)]
    refine AMut.sub ?_ (sub_zArr (i64V 9))
    refine amut_of code_scrimref25_Ports_Release (by simp [fn_scrimref25_Ports_Release]) fun C hC => ?_
    refine walk3 ?_
    exact fin_m []
  · rw [h1] at cm hno
    have cf := rmay_a c rd dn (.sl 8 (l.map recV)) pc to hpc hto
    cases h2 : flowsN pc to
    · rw [h2] at cf
      rw [if_pos (.inr rfl)]
      refine AMut.sub ?_ (sub_zArr (i64V 9))
      refine amut_of code_scrimref25_Ports_Release (by simp [fn_scrimref25_Ports_Release]) fun C hC => ?_
      refine walk3 ?_
      exact fin_m []
    · rw [h2] at hno
      simp at hno

set_option maxHeartbeats 4000000 in
set_option maxRecDepth 10000 in
theorem rrele_m (c : Cfg) (hc : CfgOK c) (rd dn : Nat → Int) (l : List Rec) (hl : l.length ≤ 100000) (to : Nat) (hto : to < 18446744073709551616) (A : Arr) (hA : okA A) (pc : Nat) (hpc : pc < 18446744073709551616) (hok : (releP c l to A pc).2.2 = 0) :
    AMut Try.prog 37 [.optr 0 0 0, labV to, .agg (arrV A), labV pc] [(0, some (rBox c rd dn (.own 1))), (1, some (recRow l))] 2
      (.tup [.agg (arrV (releP c l to A pc).2.1), i64V 0]) [(0, some (rBox c rd dn (.own 2))), (1, none), (2, some (recRow (releP c l to A pc).1))] 3 := by
  have ct := rtotal_a A hA
  have cj := rjoin_a to c.au hto hc.au
  have cm := rmay_a c rd dn (.sl 8 (l.map recV)) (totA A) (to ||| c.au) (totA_lt A hA) (or_lt _ _ hto hc.au)
  have cf := rmay_a c rd dn (.sl 8 (l.map recV)) pc to hpc hto
  have ce := r8Erase_a A hA
  unfold releP at hok ⊢
  by_cases hf : flowsN (totA A) (to ||| c.au) = false ∨ flowsN pc to = false
  · rw [if_pos hf] at hok; simp at hok
  · rw [if_neg hf]
    rw [show flowsN (totA A) (to ||| c.au) = true from by simp only [not_or, Bool.not_eq_false] at hf; exact hf.1] at cm
    rw [show flowsN pc to = true from by simp only [not_or, Bool.not_eq_false] at hf; exact hf.2] at cf
    have cc := rcover_m c rd dn (l ++ [(⟨2, 0, totA A, to, 0, eraA A⟩ : Rec)]) A hA to hto
    have hb : ((l.map recV).length + 1) * 96 ≤ 140737488355328 := by simp; omega
    have er : (l ++ [(⟨2, 0, totA A, to, 0, eraA A⟩ : Rec)]).map recV = l.map recV ++ [recV ⟨2, 0, totA A, to, 0, eraA A⟩] := by simp
    rw [recRow, er] at cc
    refine amut_of code_scrimref25_Ports_Release (by simp [fn_scrimref25_Ports_Release]) fun C hC => ?_
    rw [recRow, er]
    refine walk3 ?_
    refine aw_reg (rrun3 ?_)
    refine r_callM [(0, 0), (5, 1)] cc ?_
    refine rrun3 ?_
    refine rg_nil ⟨rfl, ?_⟩
    refine walk3 ?_
    exact fin_m [(2, 5)]

set_option maxHeartbeats 4000000 in
set_option maxRecDepth 10000 in
theorem rrepo_no (c : Cfg) (hc : CfgOK c) (rd dn : Nat → Int) (l : List Rec) (k : Int) (pc : Nat) (hpc : pc < 18446744073709551616) (hno : (repoP c l k pc).2 ≠ 0) :
    AMut Try.prog 38 [.optr 0 0 0, i64V k, labV pc] [(0, some (rBox c rd dn (.own 1))), (1, some (recRow l))] 2
      (i64V (repoP c l k pc).2) [(0, some (rBox c rd dn (.own 1))), (1, some (recRow l))] 2 := by
  have cf := rmay_a c rd dn (.sl 8 (l.map recV)) pc (c.cl 0) hpc (hc.cl _)
  unfold repoP at hno ⊢
  cases hf : flowsN pc (c.cl 0)
  · rw [hf] at cf
    rw [if_pos rfl]
    refine amut_of code_scrimref25_Ports_Report (by simp [fn_scrimref25_Ports_Report]) fun C hC => ?_
    refine walk3 ?_
    exact fin_m []
  · rw [hf] at hno; simp at hno

set_option maxHeartbeats 4000000 in
set_option maxRecDepth 10000 in
theorem rrepo_m (c : Cfg) (hc : CfgOK c) (rd dn : Nat → Int) (l : List Rec) (hl : l.length ≤ 100000) (k : Int) (pc : Nat) (hpc : pc < 18446744073709551616) (hok : (repoP c l k pc).2 = 0) :
    AMut Try.prog 38 [.optr 0 0 0, i64V k, labV pc] [(0, some (rBox c rd dn (.own 1))), (1, some (recRow l))] 2
      (i64V 0) [(0, some (rBox c rd dn (.own 2))), (1, none), (2, some (recRow (repoP c l k pc).1))] 3 := by
  have cf := rmay_a c rd dn (.sl 8 (l.map recV)) pc (c.cl 0) hpc (hc.cl _)
  unfold repoP at hok ⊢
  cases hf : flowsN pc (c.cl 0)
  · rw [hf] at hok; simp at hok
  · rw [hf] at cf
    rw [if_neg (by simp)]
    have hb : ((l.map recV).length + 1) * 96 ≤ 140737488355328 := by simp; omega
    have er : (l ++ [(⟨3, 0, 0, 0, k, zArr⟩ : Rec)]).map recV = l.map recV ++ [recV ⟨3, 0, 0, 0, k, zArr⟩] := by simp
    refine amut_of code_scrimref25_Ports_Report (by simp [fn_scrimref25_Ports_Report]) fun C hC => ?_
    rw [recRow, er]
    refine aw_postW ?_
    refine walk3 ?_
    exact ⟨_, weak_row 3 rfl rfl (es' := l.map recV ++ [recV ⟨3, 0, 0, 0, k, zArr⟩]) (by simp [chunk]) (fun im w vs => RdIE.appL (l := l.map recV) (a := [[i64V 3, i64V 0, labV 0, labV 0, i64V k, labV 0, .lit (.slice none 0 0), .lit (.slice none 0 0)]])
      (fun vs => RdIE.one (fun vs => RdIL.ofSub vs (SubL.cons (Sub.refl _) (SubL.cons (Sub.refl _) (SubL.cons (Sub.refl _) (SubL.cons (Sub.refl _) (SubL.cons (Sub.refl _) (SubL.cons (Sub.refl _) (SubL.cons (Sub.nil _) (SubL.cons (Sub.nil _) SubL.nil))))))))) vs)), fin_m [(2, 3)]⟩
end Go.Proofs.Ytfnbhkeilcbmjaa
