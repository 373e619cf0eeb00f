/- Flow: what ports do. -/
import Derived.Test.YtfnbhkeilcbmjaaFlowQ
namespace Go.Proofs.Ytfnbhkeilcbmjaa
set_option linter.unusedVariables false
open Go.RowKit

theorem not_bad {k : Int} (h : ¬ (k < 0 ∨ 7 < k)) : 0 ≤ k ∧ k < 8 ∧ k.toNat < 8 := by omega

set_option maxRecDepth 10000 in
theorem read_m (c : Cfg) (hc : CfgOK c) (rd dn : Nat → Int) (l : List Rec) (hr : fewN rd) (k : Int) (pc : Nat) (hpc : pc < 18446744073709551616) :
    AMut Try.prog 17 [.optr 0 0 0, i64V k, labV pc] [(0, some (pBox c rd dn (.own 1))), (1, some (recRow l))] 2
      (.tup [.agg (arrV (readP c rd k pc).2.1), i64V (readP c rd k pc).2.2]) [(0, some (pBox c (readP c rd k pc).1 dn (.own 1))), (1, some (recRow l))] 2 := by
  have cn := none_a c rd dn (.sl 8 (l.map recV)) k
  unfold readP
  by_cases hk : k < 0 ∨ 7 < k
  · rw [if_pos hk]
    have cn := cn true (by simpa using hk)
    refine AMut.sub ?_ (sub_zArr (i64V 14))
    refine amut_of code_flow_Ports_Read (by simp [fn_flow_Ports_Read]) fun C hC => ?_
    refine walk3 ?_
    exact fin_m []
  · rw [if_neg hk]
    obtain ⟨h0, h1, h2⟩ := not_bad hk
    have cn := cn false (by simpa using hk)
    have e1 := p_cl c rd dn (.own 1) k.toNat h2
    have cf := flows_a pc (c.cl k.toNat) hpc (hc.cl _)
    cases hf : flowsN pc (c.cl k.toNat)
    · rw [hf] at cf
      rw [if_pos rfl]
      refine AMut.sub ?_ (sub_zArr (i64V 9))
      refine amut_of code_flow_Ports_Read (by simp [fn_flow_Ports_Read]) fun C hC => ?_
      refine walk3 ?_
      exact fin_m []
    · rw [hf] at cf
      rw [if_neg (by simp)]
      have e2 := p_rd c rd dn (.own 1) k.toNat h2
      have e3 := p_in c rd dn (.own 1) k.toNat h2
      obtain ⟨b1, b2⟩ := hr k.toNat
      have hL : (((((c.ins k.toNat).map arrR).length : Nat)) : Int) = ((c.ins k.toNat).length : Nat) := by simp
      by_cases hlt : (rd k.toNat).toNat < (c.ins k.toNat).length
      · obtain ⟨A, hA⟩ : ∃ A, (c.ins k.toNat)[(rd k.toNat).toNat]? = some A := ⟨_, List.getElem?_eq_getElem hlt⟩
        have ha := arr_at hA
        have hok := (hc.ins k.toNat).2 A (List.mem_of_getElem? hA)
        rw [hA]
        have hb : rd k.toNat < ((((c.ins k.toNat).map arrR).length : Nat) : Int) := by rw [hL]; omega
        have c1 := erase_a A hok
        have c2 := cover_a (eraA A) (c.cl k.toNat) (okA_era hok) (hc.cl _)
        have e4 := p_le c rd dn (.own 1) k.toNat 36 h2 (by omega)
        have e5 := p_rd_set c rd dn (.own 1) (rd k.toNat + 1) k.toNat h2
        refine amut_of code_flow_Ports_Read (by simp [fn_flow_Ports_Read]) fun C hC => ?_
        refine walk3 ?_
        exact fin_m []
      · rw [List.getElem?_eq_none (by omega)]
        refine AMut.sub ?_ (sub_zArr (i64V 6))
        refine amut_of code_flow_Ports_Read (by simp [fn_flow_Ports_Read]) fun C hC => ?_
        refine walk3 ?_
        exact fin_m []

theorem numA_ok {z : Int} (h0 : -9223372036854775808 ≤ z) (h1 : z ≤ 9223372036854775807) : okA (numA z) := by
  have hB : maxB = 1000000000 := rfl
  have hll : (limbs z.natAbs).length ≤ 2 := by
    rw [← digI_limbs h0 h1]
    have k1 := trimI_len (digI z)
    have hd := digI_len z
    omega
  simp only [numA, okA, okCs, intC, okC, okAs, ofZ, List.length_nil, List.length_cons]
  refine ⟨by omega, by omega, by omega, ⟨by omega, by omega, by omega, by omega, trivial⟩, trivial⟩

set_option maxRecDepth 10000 in
theorem draw_m (c : Cfg) (hc : CfgOK c) (rd dn : Nat → Int) (l : List Rec) (hr : fewN dn) (k : Int) (pc : Nat) (hpc : pc < 18446744073709551616) :
    AMut Try.prog 18 [.optr 0 0 0, i64V k, labV pc] [(0, some (pBox c rd dn (.own 1))), (1, some (recRow l))] 2
      (.tup [.agg (arrV (drawP c dn k pc).2.1), i64V (drawP c dn k pc).2.2]) [(0, some (pBox c rd (drawP c dn k pc).1 (.own 1))), (1, some (recRow l))] 2 := by
  have cn := none_a c rd dn (.sl 8 (l.map recV)) k
  unfold drawP
  by_cases hk : k < 0 ∨ 7 < k
  · rw [if_pos hk]
    have cn := cn true (by simpa using hk)
    refine AMut.sub ?_ (sub_zArr (i64V 14))
    refine amut_of code_flow_Ports_Draw (by simp [fn_flow_Ports_Draw]) fun C hC => ?_
    refine walk3 ?_
    exact fin_m []
  · rw [if_neg hk]
    obtain ⟨h0, h1, h2⟩ := not_bad hk
    have cn := cn false (by simpa using hk)
    have e1 := p_lb c rd dn (.own 1) k.toNat h2
    have cf := flows_a pc (c.lb k.toNat) hpc (hc.lb _)
    cases hf : flowsN pc (c.lb k.toNat)
    · rw [hf] at cf
      rw [if_pos rfl]
      refine AMut.sub ?_ (sub_zArr (i64V 9))
      refine amut_of code_flow_Ports_Draw (by simp [fn_flow_Ports_Draw]) fun C hC => ?_
      refine walk3 ?_
      exact fin_m []
    · rw [hf] at cf
      rw [if_neg (by simp)]
      have e2 := p_dn c rd dn (.own 1) k.toNat h2
      have e3 := p_dr c rd dn (.own 1) k.toNat h2
      obtain ⟨b1, b2⟩ := hr k.toNat
      have hL := intsA_len .i64 (c.dr k.toNat)
      by_cases hlt : (dn k.toNat).toNat < (c.dr k.toNat).length
      · obtain ⟨z, hz⟩ : ∃ A, (c.dr k.toNat)[(dn k.toNat).toNat]? = some A := ⟨_, List.getElem?_eq_getElem hlt⟩
        have ha := int_at (k := .i64) hz
        obtain ⟨z0, z1⟩ := (hc.dr k.toNat).2 z (List.mem_of_getElem? hz)
        rw [hz]
        have hb : dn k.toNat < (((intsA .i64 (c.dr k.toNat)).length : Nat) : Int) := by rw [hL]; omega
        have hB : maxB = 1000000000 := rfl
        have hll : (limbs z.natAbs).length ≤ 2 := by
          rw [← digI_limbs z0 z1]
          have k1 := trimI_len (digI z)
          have hd := digI_len z
          omega
        have c0 := arrIntG_a z z0 z1
        have c1 := scalar_a (intC z) (by simp only [intC, ofZ, Cell.n]; omega) (by simp [intC, ofZ, Cell.n]; omega) (by simp [intC, Cell.ins])
        have c2 : ACalls Try.prog 27 [.agg (arrV (numA z)), labV (c.lb k.toNat)] (.agg (arrV (covA (c.lb k.toNat) (eraA (numA z))))) := cover_a (numA z) (c.lb k.toNat) (numA_ok z0 z1) (hc.lb _)
        have e4 := p_le c rd dn (.own 1) k.toNat 44 h2 (by omega)
        have e5 := p_dn_set c rd dn (.own 1) (dn k.toNat + 1) k.toNat h2
        refine amut_of code_flow_Ports_Draw (by simp [fn_flow_Ports_Draw]) fun C hC => ?_
        refine walk3 ?_
        exact fin_m []
      · rw [List.getElem?_eq_none (by omega)]
        refine AMut.sub ?_ (sub_zArr (i64V 6))
        refine amut_of code_flow_Ports_Draw (by simp [fn_flow_Ports_Draw]) fun C hC => ?_
        refine walk3 ?_
        exact fin_m []

set_option maxRecDepth 10000 in
theorem send_no (c : Cfg) (hc : CfgOK c) (rd dn : Nat → Int) (l : List Rec) (k : Int) (A : Arr) (hA : okA A) (pc : Nat) (hpc : pc < 18446744073709551616) (hno : (sendP c l k A pc).2 ≠ 0) :
    AMut Try.prog 20 [.optr 0 0 0, i64V k, .agg (arrV A), labV pc] [(0, some (pBox c rd dn (.own 1))), (1, some (recRow l))] 2
      (i64V (sendP c l k A pc).2) [(0, some (pBox c rd dn (.own 1))), (1, some (recRow l))] 2 := by
  have cn := none_a c rd dn (.sl 8 (l.map recV)) k
  unfold sendP at hno ⊢
  by_cases hk : k < 0 ∨ 7 < k
  · rw [if_pos hk]
    have cn := cn true (by simpa using hk)
    refine amut_of code_flow_Ports_Send (by simp [fn_flow_Ports_Send]) fun C hC => ?_
    refine walk3 ?_
    exact fin_m []
  · rw [if_neg hk] at hno ⊢
    obtain ⟨h0, h1, h2⟩ := not_bad hk
    have cn := cn false (by simpa using hk)
    have e1 := p_cl c rd dn (.own 1) k.toNat h2
    have ct := total_a A hA
    have cj := join_a pc (totA A) hpc (totA_lt A hA)
    have cf := flows_a (pc ||| totA A) (c.cl k.toNat) (or_lt _ _ hpc (totA_lt A hA)) (hc.cl _)
    cases hf : flowsN (pc ||| totA A) (c.cl k.toNat)
    · rw [hf] at cf
      rw [if_pos rfl]
      refine amut_of code_flow_Ports_Send (by simp [fn_flow_Ports_Send]) fun C hC => ?_
      refine walk3 ?_
      exact fin_m []
    · rw [hf] at hno
      simp at hno

set_option maxRecDepth 10000 in
theorem send_m (c : Cfg) (hc : CfgOK c) (rd dn : Nat → Int) (l : List Rec) (hl : l.length ≤ 100000) (k : Int) (A : Arr) (hA : okA A) (pc : Nat) (hpc : pc < 18446744073709551616) (hok : (sendP c l k A pc).2 = 0) :
    AMut Try.prog 20 [.optr 0 0 0, i64V k, .agg (arrV A), labV pc] [(0, some (pBox c rd dn (.own 1))), (1, some (recRow l))] 2
      (i64V 0) [(0, some (pBox c rd dn (.own 2))), (1, none), (2, some (recRow (sendP c l k A pc).1))] 3 := by
  have cn := none_a c rd dn (.sl 8 (l.map recV)) k
  unfold sendP at hok ⊢
  by_cases hk : k < 0 ∨ 7 < k
  · rw [if_pos hk] at hok
    simp at hok
  · rw [if_neg hk] at hok ⊢
    obtain ⟨h0, h1, h2⟩ := not_bad hk
    have cn := cn false (by simpa using hk)
    have e1 := p_cl c rd dn (.own 1) k.toNat h2
    have ct := total_a A hA
    have cj := join_a pc (totA A) hpc (totA_lt A hA)
    have ce := erase_a A hA
    have cf := flows_a (pc ||| totA A) (c.cl k.toNat) (or_lt _ _ hpc (totA_lt A hA)) (hc.cl _)
    cases hf : flowsN (pc ||| totA A) (c.cl k.toNat)
    · rw [hf] at hok
      simp at hok
    · rw [hf] at cf
      rw [if_neg (by simp)]
      have hb : ((l.map recV).length + 1) * 96 ≤ 140737488355328 := by simp; omega
      have er : (l ++ [(⟨1, k, 0, 0, 0, eraA A⟩ : Rec)]).map recV = l.map recV ++ [recV ⟨1, k, 0, 0, 0, eraA A⟩] := by simp
      refine amut_of code_flow_Ports_Send (by simp [fn_flow_Ports_Send]) fun C hC => ?_
      rw [recRow, er]
      refine walk3 ?_
      exact fin_m [(2, 4)]

set_option maxRecDepth 10000 in
theorem lmay_a (a b c : Nat) (ha : a < 18446744073709551616) (hb : b < 18446744073709551616) (hc : c < 18446744073709551616) : ACalls Try.prog 46 [labV a, labV b, labV c] (.lit (.bool (flowsN a (b ||| c)))) := by
  have c1 := join_a b c hb hc
  have c2 := flows_a a (b ||| c) ha (or_lt b c hb hc)
  refine acalls_of code_label_May (by simp [fn_label_May]) fun C hC => ?_
  refine walk3 ?_
  exact fin

set_option maxRecDepth 10000 in
theorem rele_no (c : Cfg) (hc : CfgOK c) (rd dn : Nat → Int) (l : List Rec) (to : Nat) (hto : to < 18446744073709551616) (A : Arr) (hA : okA A) (pc : Nat) (hpc : pc < 18446744073709551616) (hno : (releP c l to A pc).2.2 ≠ 0) :
    AMut Try.prog 19 [.optr 0 0 0, labV to, .agg (arrV A), labV pc] [(0, some (pBox c rd dn (.own 1))), (1, some (recRow l))] 2
      (.tup [.agg (arrV (releP c l to A pc).2.1), i64V (releP c l to A pc).2.2]) [(0, some (pBox c rd dn (.own 1))), (1, some (recRow l))] 2 := by
  have hu := Try.underlying33
  have ct := total_a A hA
  have cm := lmay_a (totA A) to c.au (totA_lt A hA) hto hc.au
  unfold releP at hno ⊢
  cases h1 : flowsN (totA A) (to ||| c.au)
  · rw [h1] at cm
    rw [if_pos (.inl rfl)]
    refine AMut.sub ?_ (sub_zArr (i64V 9))
    refine amut_of code_flow_Ports_Release (by simp [fn_flow_Ports_Release]) fun C hC => ?_
    refine walk3 ?_
    exact fin_m []
  · rw [h1] at cm hno
    have cf := flows_a pc to hpc hto
    cases h2 : flowsN pc to
    · rw [h2] at cf
      rw [if_pos (.inr rfl)]
      refine AMut.sub ?_ (sub_zArr (i64V 9))
      refine amut_of code_flow_Ports_Release (by simp [fn_flow_Ports_Release]) fun C hC => ?_
      refine walk3 ?_
      exact fin_m []
    · rw [h2] at hno
      simp at hno

set_option maxRecDepth 10000 in
theorem rele_m (c : Cfg) (hc : CfgOK c) (rd dn : Nat → Int) (l : List Rec) (hl : l.length ≤ 100000) (to : Nat) (hto : to < 18446744073709551616) (A : Arr) (hA : okA A) (pc : Nat) (hpc : pc < 18446744073709551616) (hok : (releP c l to A pc).2.2 = 0) :
    AMut Try.prog 19 [.optr 0 0 0, labV to, .agg (arrV A), labV pc] [(0, some (pBox c rd dn (.own 1))), (1, some (recRow l))] 2
      (.tup [.agg (arrV (releP c l to A pc).2.1), i64V 0]) [(0, some (pBox c rd dn (.own 2))), (1, none), (2, some (recRow (releP c l to A pc).1))] 3 := by
  have hu := Try.underlying33
  have ct := total_a A hA
  have cm := lmay_a (totA A) to c.au (totA_lt A hA) hto hc.au
  have cf := flows_a pc to hpc hto
  have ce := erase_a A hA
  have cc := cover_a (eraA A) to (okA_era hA) hto
  unfold releP at hok ⊢
  by_cases hf : flowsN (totA A) (to ||| c.au) = false ∨ flowsN pc to = false
  · rw [if_pos hf] at hok; simp at hok
  · rw [if_neg hf]
    rw [show flowsN (totA A) (to ||| c.au) = true from by simp only [not_or, Bool.not_eq_false] at hf; exact hf.1] at cm
    rw [show flowsN pc to = true from by simp only [not_or, Bool.not_eq_false] at hf; exact hf.2] at cf
    have hb : ((l.map recV).length + 1) * 96 ≤ 140737488355328 := by simp; omega
    have er : (l ++ [(⟨2, 0, totA A, to, 0, eraA A⟩ : Rec)]).map recV = l.map recV ++ [recV ⟨2, 0, totA A, to, 0, eraA A⟩] := by simp
    refine amut_of code_flow_Ports_Release (by simp [fn_flow_Ports_Release]) fun C hC => ?_
    rw [recRow, er]
    refine walk3 ?_
    exact fin_m [(2, 5)]

set_option maxRecDepth 10000 in
theorem repo_no (c : Cfg) (hc : CfgOK c) (rd dn : Nat → Int) (l : List Rec) (k : Int) (pc : Nat) (hpc : pc < 18446744073709551616) (hno : (repoP c l k pc).2 ≠ 0) :
    AMut Try.prog 21 [.optr 0 0 0, i64V k, labV pc] [(0, some (pBox c rd dn (.own 1))), (1, some (recRow l))] 2
      (i64V (repoP c l k pc).2) [(0, some (pBox c rd dn (.own 1))), (1, some (recRow l))] 2 := by
  have hu := Try.underlying33
  have cf := flows_a pc (c.cl 0) hpc (hc.cl _)
  unfold repoP at hno ⊢
  cases hf : flowsN pc (c.cl 0)
  · rw [hf] at cf
    rw [if_pos rfl]
    refine amut_of code_flow_Ports_Report (by simp [fn_flow_Ports_Report]) fun C hC => ?_
    refine walk3 ?_
    exact fin_m []
  · rw [hf] at hno; simp at hno

set_option maxRecDepth 10000 in
theorem repo_m (c : Cfg) (hc : CfgOK c) (rd dn : Nat → Int) (l : List Rec) (hl : l.length ≤ 100000) (k : Int) (pc : Nat) (hpc : pc < 18446744073709551616) (hok : (repoP c l k pc).2 = 0) :
    AMut Try.prog 21 [.optr 0 0 0, i64V k, labV pc] [(0, some (pBox c rd dn (.own 1))), (1, some (recRow l))] 2
      (i64V 0) [(0, some (pBox c rd dn (.own 2))), (1, none), (2, some (recRow (repoP c l k pc).1))] 3 := by
  have hu := Try.underlying33
  have cf := flows_a pc (c.cl 0) hpc (hc.cl _)
  unfold repoP at hok ⊢
  cases hf : flowsN pc (c.cl 0)
  · rw [hf] at hok; simp at hok
  · rw [hf] at cf
    rw [if_neg (by simp)]
    have hb : ((l.map recV).length + 1) * 96 ≤ 140737488355328 := by simp; omega
    have er : (l ++ [(⟨3, 0, 0, 0, k, zArr⟩ : Rec)]).map recV = l.map recV ++ [recV ⟨3, 0, 0, 0, k, zArr⟩] := by simp
    refine amut_of code_flow_Ports_Report (by simp [fn_flow_Ports_Report]) fun C hC => ?_
    rw [recRow, er]
    refine aw_postW ?_
    refine walk3 ?_
    exact ⟨_, weak_row 3 rfl rfl (es' := l.map recV ++ [recV ⟨3, 0, 0, 0, k, zArr⟩]) (by simp [chunk]) (fun im w vs => RdIE.appL (l := l.map recV) (a := [[i64V 3, i64V 0, labV 0, labV 0, i64V k, labV 0, .lit (.slice none 0 0), .lit (.slice none 0 0)]])
      (fun vs => RdIE.one (fun vs => RdIL.ofSub vs (SubL.cons (Sub.refl _) (SubL.cons (Sub.refl _) (SubL.cons (Sub.refl _) (SubL.cons (Sub.refl _) (SubL.cons (Sub.refl _) (SubL.cons (Sub.refl _) (SubL.cons (Sub.nil _) (SubL.cons (Sub.nil _) SubL.nil))))))))) vs)), fin_m [(2, 3)]⟩
end Go.Proofs.Ytfnbhkeilcbmjaa
