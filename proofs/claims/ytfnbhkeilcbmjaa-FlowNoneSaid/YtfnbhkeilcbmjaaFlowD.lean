/- Flow: what the document's ports do. -/
import Derived.Test.YtfnbhkeilcbmjaaFlowC
namespace Go.Proofs.Ytfnbhkeilcbmjaa
set_option linter.unusedVariables false
open Go.RowKit

set_option maxHeartbeats 4000000 in
set_option maxRecDepth 10000 in
theorem rmay_a (c : Cfg) (rd dn : Nat → Int) (x : AV) (a b : Nat) (ha : a < 18446744073709551616) (hb : b < 18446744073709551616) :
    ACalls Try.prog 56 [.ep 54 [rportsV c rd dn x] 0 0, labV a, labV b] (.lit (.bool (flowsN a b))) := by
  have c1 := rflows_a a b ha hb
  refine acalls_of code_scrimref25_Ports_May (by simp [fn_scrimref25_Ports_May]) fun C hC => ?_
  refine walk3 ?_
  exact fin

set_option maxHeartbeats 4000000 in
set_option maxRecDepth 10000 in
theorem rcover_m (c : Cfg) (rd dn : Nat → Int) (l : List Rec) (A : Arr) (hA : okA A) (a : Nat) (ha : a < 18446744073709551616) :
    AMut Try.prog 57 [.optr 0 0 0, .agg (arrV A), labV a] [(0, some (rBox c rd dn (.own 1))), (1, some (recRow l))] 2 (.agg (arrV (covA a (eraA A)))) [(0, some (rBox c rd dn (.own 1))), (1, some (recRow l))] 2 := by
  have c1 := r8Erase_a A hA
  have c2 := r8CoverF_a a ha (eraA A) (okA_era hA)
  refine amut_of code_scrimref25_Ports_Cover (by simp [fn_scrimref25_Ports_Cover]) fun C hC => ?_
  refine walk3 ?_
  exact fin_m []

theorem numA_V (z : Int) : arrV (numA z) = [labV 0, .sl 1 [], .sl 7 [cellV (intC z)]] := by
  simp [numA, arrV, Arr.s, Arr.shape, Arr.cells, cellR_eq, intsA]
set_option maxHeartbeats 4000000 in
set_option maxRecDepth 10000 in
theorem rcoverO_m (c : Cfg) (rd dn : Nat → Int) (l : List Rec) (z : Int) (hA : okA (numA z)) (a : Nat) (ha : a < 18446744073709551616) :
    AMut Try.prog 57 [.optr 0 0 0, .agg [labV 0, .lit (.slice none 0 0), .own 2], labV a] [(0, some (rBox c rd dn (.own 1))), (1, some (recRow l)), (2, some ⟨true, false, 71, 7, [cellV (intC z)]⟩)] 3 (.agg (arrV (covA a (eraA (numA z))))) [(0, some (rBox c rd dn (.own 1))), (1, some (recRow l)), (2, some ⟨true, true, 71, 7, [cellV (intC z)]⟩)] 3 := by
  have c1 := r8Erase_a (numA z) hA
  rw [numA_V] at c1
  have c2 := r8CoverF_a a ha (eraA (numA z)) (okA_era hA)
  refine amut_of code_scrimref25_Ports_Cover (by simp [fn_scrimref25_Ports_Cover]) fun C hC => ?_
  refine walk3 ?_
  exact fin_m []

set_option maxHeartbeats 4000000 in
set_option maxRecDepth 10000 in
theorem rread_m (c : Cfg) (hc : CfgOK c) (rd dn : Nat → Int) (l : List Rec) (hr : fewN rd) (k : Int) (pc : Nat) (hpc : pc < 18446744073709551616) :
    AMut Try.prog 33 [.optr 0 0 0, i64V k, labV pc] [(0, some (rBox c rd dn (.own 1))), (1, some (recRow l))] 2
      (.tup [.agg (arrV (readP c rd k pc).2.1), i64V (readP c rd k pc).2.2]) [(0, some (rBox c (readP c rd k pc).1 dn (.own 1))), (1, some (recRow l))] 2 := by
  unfold readP
  by_cases hk : k < 0 ∨ 7 < k
  · rw [if_pos hk]
    refine AMut.sub ?_ (sub_zArr (i64V 14))
    refine amut_of code_scrimref25_Ports_Next (by simp [fn_scrimref25_Ports_Next]) fun C hC => ?_
    by_cases h0 : k < 0
    · refine walk3 ?_
      exact fin_m []
    · refine walk3 ?_
      exact fin_m []
  · rw [if_neg hk]
    obtain ⟨h0, h1, h2⟩ := not_bad hk
    have e1 := r_cl c rd dn (.own 1) k.toNat h2
    have cf := rmay_a c rd dn (.sl 8 (l.map recV)) pc (c.cl k.toNat) hpc (hc.cl _)
    cases hf : flowsN pc (c.cl k.toNat)
    · rw [hf] at cf
      rw [if_pos rfl]
      refine AMut.sub ?_ (sub_zArr (i64V 9))
      refine amut_of code_scrimref25_Ports_Next (by simp [fn_scrimref25_Ports_Next]) fun C hC => ?_
      refine walk3 ?_
      exact fin_m []
    · rw [hf] at cf
      rw [if_neg (by simp)]
      have e2 := r_rd c rd dn (.own 1) k.toNat h2
      have e3 := r_in c rd dn (.own 1) k.toNat h2
      obtain ⟨b1, b2⟩ := hr k.toNat
      have hL : (((((c.ins k.toNat).map arrR).length : Nat)) : Int) = ((c.ins k.toNat).length : Nat) := by simp
      by_cases hlt : (rd k.toNat).toNat < (c.ins k.toNat).length
      · obtain ⟨A, hA⟩ : ∃ A, (c.ins k.toNat)[(rd k.toNat).toNat]? = some A := ⟨_, List.getElem?_eq_getElem hlt⟩
        have ha := arr_at hA
        have hok := (hc.ins k.toNat).2 A (List.mem_of_getElem? hA)
        rw [hA]
        have hb : rd k.toNat < ((((c.ins k.toNat).map arrR).length : Nat) : Int) := by rw [hL]; omega
        have e4 := r_le c rd dn (.own 1) k.toNat 36 h2 (by omega)
        have e5 := r_rd_set c rd dn (.own 1) (rd k.toNat + 1) k.toNat h2
        have e6 := r_cl c (updF rd k.toNat (rd k.toNat + 1)) dn (.own 1) k.toNat h2
        have c2 := rcover_m c (updF rd k.toNat (rd k.toNat + 1)) dn l A hok (c.cl k.toNat) (hc.cl _)
        refine amut_of code_scrimref25_Ports_Next (by simp [fn_scrimref25_Ports_Next]) fun C hC => ?_
        refine walk3 ?_
        refine aw_reg (rrun3 ?_)
        refine r_callM [(0, 0), (1, 1)] c2 ?_
        refine rrun3 ?_
        refine rg_nil ⟨rfl, ?_⟩
        refine walk3 ?_
        exact fin_m []
      · rw [List.getElem?_eq_none (by omega)]
        refine AMut.sub ?_ (sub_zArr (i64V 6))
        refine amut_of code_scrimref25_Ports_Next (by simp [fn_scrimref25_Ports_Next]) fun C hC => ?_
        refine walk3 ?_
        exact fin_m []

set_option maxHeartbeats 4000000 in
set_option maxRecDepth 10000 in
theorem rdraw_m (c : Cfg) (hc : CfgOK c) (rd dn : Nat → Int) (l : List Rec) (hr : fewN dn) (k : Int) (pc : Nat) (hpc : pc < 18446744073709551616) :
    AMut Try.prog 35 [.optr 0 0 0, i64V k, labV pc] [(0, some (rBox c rd dn (.own 1))), (1, some (recRow l))] 2
      (.tup [.agg (arrV (drawP c dn k pc).2.1), i64V (drawP c dn k pc).2.2]) [(0, some (rBox c rd (drawP c dn k pc).1 (.own 1))), (1, some (recRow l))] 2 := by
  unfold drawP
  by_cases hk : k < 0 ∨ 7 < k
  · rw [if_pos hk]
    refine AMut.sub ?_ (sub_zArr (i64V 14))
    refine amut_of code_scrimref25_Ports_Draw (by simp [fn_scrimref25_Ports_Draw]) fun C hC => ?_
    by_cases h0 : k < 0
    · refine walk3 ?_
      exact fin_m []
    · refine walk3 ?_
      exact fin_m []
  · rw [if_neg hk]
    obtain ⟨h0, h1, h2⟩ := not_bad hk
    have e1 := r_lb c rd dn (.own 1) k.toNat h2
    have cf := rmay_a c rd dn (.sl 8 (l.map recV)) pc (c.lb k.toNat) hpc (hc.lb _)
    cases hf : flowsN pc (c.lb k.toNat)
    · rw [hf] at cf
      rw [if_pos rfl]
      refine AMut.sub ?_ (sub_zArr (i64V 9))
      refine amut_of code_scrimref25_Ports_Draw (by simp [fn_scrimref25_Ports_Draw]) fun C hC => ?_
      refine walk3 ?_
      exact fin_m []
    · rw [hf] at cf
      rw [if_neg (by simp)]
      have e2 := r_dn c rd dn (.own 1) k.toNat h2
      have e3 := r_dr c rd dn (.own 1) k.toNat h2
      obtain ⟨b1, b2⟩ := hr k.toNat
      have hL := intsA_len .i64 (c.dr k.toNat)
      by_cases hlt : (dn k.toNat).toNat < (c.dr k.toNat).length
      · obtain ⟨z, hz⟩ : ∃ A, (c.dr k.toNat)[(dn k.toNat).toNat]? = some A := ⟨_, List.getElem?_eq_getElem hlt⟩
        have ha := int_at (k := .i64) hz
        obtain ⟨z0, z1⟩ := (hc.dr k.toNat).2 z (List.mem_of_getElem? hz)
        rw [hz]
        have hb : dn k.toNat < (((intsA .i64 (c.dr k.toNat)).length : Nat) : Int) := by rw [hL]; omega
        have c0 := r8Int_a z z0 z1
        have e4 := r_le c rd dn (.own 1) k.toNat 44 h2 (by omega)
        have e5 := r_dn_set c rd dn (.own 1) (dn k.toNat + 1) k.toNat h2
        have e6 := r_lb c rd (updF dn k.toNat (dn k.toNat + 1)) (.own 1) k.toNat h2
        have c2 := rcoverO_m c rd (updF dn k.toNat (dn k.toNat + 1)) l z (numA_ok z0 z1) (c.lb k.toNat) (hc.lb _)
        refine amut_of code_scrimref25_Ports_Draw (by simp [fn_scrimref25_Ports_Draw]) fun C hC => ?_
        refine walk3 ?_
        refine aw_reg (rrun3 ?_)
        refine r_callM [(0, 0), (1, 1), (3, 2)] c2 ?_
        refine rrun3 ?_
        refine rg_nil ⟨rfl, ?_⟩
        refine walk3 ?_
        exact fin_m []
      · rw [List.getElem?_eq_none (by omega)]
        refine AMut.sub ?_ (sub_zArr (i64V 6))
        refine amut_of code_scrimref25_Ports_Draw (by simp [fn_scrimref25_Ports_Draw]) fun C hC => ?_
        refine walk3 ?_
        exact fin_m []
end Go.Proofs.Ytfnbhkeilcbmjaa
