/- Flow: what the document's ports do. -/
import Derived.Test.YtfnbhkeilcbmjaaFlowB
namespace Go.Proofs.Ytfnbhkeilcbmjaa
set_option linter.unusedVariables false
open Go.RowKit

set_option maxRecDepth 10000 in
set_option maxHeartbeats 4000000 in
theorem r8CoverT_a (l : Nat) (hl : l < 18446744073709551616) : ∀ (A : Arr), okA A → ACalls Try.prog 69 [.agg (arrV A), labV l, .lit (.bool true)] (.agg (arrV (relabA (fun _ => l) A)))
  | A, hA => by
    have hB : maxB = 1000000000 := rfl
    have lcs := cells_len A
    obtain ⟨a1, a2, a3, a4⟩ := hA.parts
    refine acalls_of code_scrimref08_Cover (by simp [fn_scrimref08_Cover]) fun C hC => ?_
    rw [relabA_eq]
    refine walk3 ?_
    refine aw_nilF 2 2 71 7 rfl rfl rfl rfl ?_
    refine aw_loopB [1, 2, 3, 6, 7] [0, 1] (fun k : Nat => [(8, i64V k)]) (fun k => [(2, some ⟨false, false, 43, 3, [[labV ((fun _ => l) A.s), .sl 1 (intsA .i64 A.shape), .own 3]]⟩), (3, some ⟨true, false, 71, 7, mapK (relV (fun _ => l)) A.cells k⟩)]) 4
      (fun k => k ≤ A.cells.length) (fun k => A.cells.length - k) 0 (Nat.zero_le _) ?_
    intro k hk
    dsimp only [List.cons_append, List.nil_append]
    by_cases hlt : k < A.cells.length
    · obtain ⟨c, hc⟩ : ∃ c, A.cells[k]? = some c := ⟨_, List.getElem?_eq_getElem hlt⟩
      have hck := cell_at hc
      have hcm := List.mem_of_getElem? hc
      have hcok := okCs_mem.1 a4 c hcm
      obtain ⟨b1, b2, b3, b4, b5⟩ := hcok.parts
      have lin := ins_len c
      have hrs := mapK_step (relV (fun _ => l)) A.cells k c hc
      have hrl := mapK_len (relV (fun _ => l)) A.cells k
      have ht : SizeOf.sizeOf c < SizeOf.sizeOf A := Nat.lt_trans (cell_size hcm) A.size
      refine walk3 ?_
      refine aw_nil 10 43 3 rfl ?_
      refine aw_loopB [1, 2, 3, 6, 7, 8, 9] [0, 1, 2, 3, 4] (fun j : Nat => [(11, i64V j), (10, .own 5)]) (fun j => [(5, some ⟨true, false, 43, 3, mapK (relW (fun _ => l)) c.ins j⟩)]) 6
        (fun j => j ≤ c.ins.length) (fun j => c.ins.length - j) 0 (Nat.zero_le _) ?_
      intro j hj
      dsimp only [List.cons_append, List.nil_append]
      by_cases hlj : j < c.ins.length
      · obtain ⟨x, hx⟩ : ∃ x, c.ins[j]? = some x := ⟨_, List.getElem?_eq_getElem hlj⟩
        have hxk := arr_at hx
        have hxm := List.mem_of_getElem? hx
        have hxok := okAs_mem.1 b5 x hxm
        have ht2 : SizeOf.sizeOf x < SizeOf.sizeOf A := Nat.lt_trans (arr_size hxm) (Nat.lt_trans c.size ht)
        have c4 := r8CoverT_a l hl x hxok
        have hms := mapK_step (relW (fun _ => l)) c.ins j x hx
        have hml := mapK_len (relW (fun _ => l)) c.ins j
        refine walk3 ?_
        exact ⟨j + 1, by omega, by omega, wkR hC.m [(5, 7)] (by rw [← hms]; rfl)⟩
      · have hme := mapK_end (relW (fun _ => l)) c.ins j hlj
        rw [hme, arrR_relab]
        refine aw_freeze 5 rfl ?_
        refine walk3 ?_
        exact ⟨k + 1, by omega, by omega, wkR hC.m [(3, 7)] (by rw [← hrs]; rfl)⟩
    · have hre := mapK_end (relV (fun _ => l)) A.cells k hlt
      rw [hre, cellR_relab]
      refine walk3 ?_
      exact ⟨_, _, rfl, rfl, Sub.refl _⟩
  termination_by A => SizeOf.sizeOf A

set_option maxRecDepth 10000 in
set_option maxHeartbeats 4000000 in
theorem r8CoverF_a (l : Nat) (hl : l < 18446744073709551616) : ∀ (A : Arr), okA A → ACalls Try.prog 69 [.agg (arrV A), labV l, .lit (.bool false)] (.agg (arrV (relabA (covG l) A)))
  | A, hA => by
    have hB : maxB = 1000000000 := rfl
    have lcs := cells_len A
    obtain ⟨a1, a2, a3, a4⟩ := hA.parts
    refine acalls_of code_scrimref08_Cover (by simp [fn_scrimref08_Cover]) fun C hC => ?_
    have c1 := rjoin_a A.s l a1 hl
    rw [relabA_eq]
    refine walk3 ?_
    refine aw_nilF 2 2 71 7 rfl rfl rfl rfl ?_
    refine aw_loopB [1, 2, 3, 6, 7] [0, 1] (fun k : Nat => [(8, i64V k)]) (fun k => [(2, some ⟨false, false, 43, 3, [[labV ((covG l) A.s), .sl 1 (intsA .i64 A.shape), .own 3]]⟩), (3, some ⟨true, false, 71, 7, mapK (relV (covG l)) A.cells k⟩)]) 4
      (fun k => k ≤ A.cells.length) (fun k => A.cells.length - k) 0 (Nat.zero_le _) ?_
    intro k hk
    dsimp only [List.cons_append, List.nil_append]
    by_cases hlt : k < A.cells.length
    · obtain ⟨c, hc⟩ : ∃ c, A.cells[k]? = some c := ⟨_, List.getElem?_eq_getElem hlt⟩
      have hck := cell_at hc
      have hcm := List.mem_of_getElem? hc
      have hcok := okCs_mem.1 a4 c hcm
      obtain ⟨b1, b2, b3, b4, b5⟩ := hcok.parts
      have lin := ins_len c
      have c3 := rjoin_a c.l l b1 hl
      have hrs := mapK_step (relV (covG l)) A.cells k c hc
      have hrl := mapK_len (relV (covG l)) A.cells k
      have ht : SizeOf.sizeOf c < SizeOf.sizeOf A := Nat.lt_trans (cell_size hcm) A.size
      refine walk3 ?_
      refine aw_nil 10 43 3 rfl ?_
      refine aw_loopB [1, 2, 3, 6, 7, 8, 9] [0, 1, 2, 3, 4] (fun j : Nat => [(11, i64V j), (10, .own 5)]) (fun j => [(5, some ⟨true, false, 43, 3, mapK (relW (covG l)) c.ins j⟩)]) 6
        (fun j => j ≤ c.ins.length) (fun j => c.ins.length - j) 0 (Nat.zero_le _) ?_
      intro j hj
      dsimp only [List.cons_append, List.nil_append]
      by_cases hlj : j < c.ins.length
      · obtain ⟨x, hx⟩ : ∃ x, c.ins[j]? = some x := ⟨_, List.getElem?_eq_getElem hlj⟩
        have hxk := arr_at hx
        have hxm := List.mem_of_getElem? hx
        have hxok := okAs_mem.1 b5 x hxm
        have ht2 : SizeOf.sizeOf x < SizeOf.sizeOf A := Nat.lt_trans (arr_size hxm) (Nat.lt_trans c.size ht)
        have c4 := r8CoverF_a l hl x hxok
        have hms := mapK_step (relW (covG l)) c.ins j x hx
        have hml := mapK_len (relW (covG l)) c.ins j
        refine walk3 ?_
        exact ⟨j + 1, by omega, by omega, wkR hC.m [(5, 7)] (by rw [← hms]; rfl)⟩
      · have hme := mapK_end (relW (covG l)) c.ins j hlj
        rw [hme, arrR_relab]
        refine aw_freeze 5 rfl ?_
        refine walk3 ?_
        exact ⟨k + 1, by omega, by omega, wkR hC.m [(3, 7)] (by rw [← hrs]; rfl)⟩
    · have hre := mapK_end (relV (covG l)) A.cells k hlt
      rw [hre, cellR_relab]
      refine walk3 ?_
      exact ⟨_, _, rfl, rfl, Sub.refl _⟩
  termination_by A => SizeOf.sizeOf A

set_option maxRecDepth 10000 in
theorem r8Erase_a (A : Arr) (hA : okA A) : ACalls Try.prog 59 [.agg (arrV A)] (.agg (arrV (eraA A))) := by
  have c1 : ACalls Try.prog 69 [.agg (arrV A), labV 0, .lit (.bool true)] (.agg (arrV (eraA A))) := r8CoverT_a 0 (by omega) A hA
  refine acalls_of code_scrimref08_Erase (by simp [fn_scrimref08_Erase]) fun C hC => ?_
  refine walk3 ?_
  exact fin
end Go.Proofs.Ytfnbhkeilcbmjaa
namespace Go.Proofs.Ytfnbhkeilcbmjaa
set_option linter.unusedVariables false
open Go.RowKit

set_option maxHeartbeats 4000000 in
set_option maxRecDepth 10000 in
theorem rmay_a (c : Cfg) (rd dn : Nat → Int) (x : AV) (a b : Nat) (ha : a < 18446744073709551616) (hb : b < 18446744073709551616) :
    ACalls Try.prog 56 [.ep 54 [rportsV c rd dn x] 0 0, labV a, labV b] (.lit (.bool (flowsN a b))) := by
  have c1 := rflows_a a b ha hb
  refine acalls_of code_scrimref25_Ports_May (by simp [fn_scrimref25_Ports_May]) fun C hC => ?_
  refine walk3 ?_
  exact fin

set_option maxHeartbeats 4000000 in
set_option maxRecDepth 10000 in
theorem rcover_m (c : Cfg) (rd dn : Nat → Int) (l : List Rec) (A : Arr) (hA : okA A) (a : Nat) (ha : a < 18446744073709551616) :
    AMut Try.prog 57 [.optr 0 0 0, .agg (arrV A), labV a] [(0, some (rBox c rd dn (.own 1))), (1, some (recRow l))] 2 (.agg (arrV (covA a (eraA A)))) [(0, some (rBox c rd dn (.own 1))), (1, some (recRow l))] 2 := by
  have c1 := r8Erase_a A hA
  have c2 := r8CoverF_a a ha (eraA A) (okA_era hA)
  refine amut_of code_scrimref25_Ports_Cover (by simp [fn_scrimref25_Ports_Cover]) fun C hC => ?_
  refine walk3 ?_
  exact fin_m []

theorem numA_V (z : Int) : arrV (numA z) = [labV 0, .sl 1 [], .sl 7 [cellV (intC z)]] := by
  simp [numA, arrV, Arr.s, Arr.shape, Arr.cells, cellR_eq, intsA]
set_option maxHeartbeats 4000000 in
set_option maxRecDepth 10000 in
theorem rcoverO_m (c : Cfg) (rd dn : Nat → Int) (l : List Rec) (z : Int) (hA : okA (numA z)) (a : Nat) (ha : a < 18446744073709551616) :
    AMut Try.prog 57 [.optr 0 0 0, .agg [labV 0, .lit (.slice none 0 0), .own 2], labV a] [(0, some (rBox c rd dn (.own 1))), (1, some (recRow l)), (2, some ⟨true, false, 71, 7, [cellV (intC z)]⟩)] 3 (.agg (arrV (covA a (eraA (numA z))))) [(0, some (rBox c rd dn (.own 1))), (1, some (recRow l)), (2, some ⟨true, true, 71, 7, [cellV (intC z)]⟩)] 3 := by
  have c1 := r8Erase_a (numA z) hA
  rw [numA_V] at c1
  have c2 := r8CoverF_a a ha (eraA (numA z)) (okA_era hA)
  refine amut_of code_scrimref25_Ports_Cover (by simp [fn_scrimref25_Ports_Cover]) fun C hC => ?_
  refine walk3 ?_
  exact fin_m []

set_option maxHeartbeats 4000000 in
set_option maxRecDepth 10000 in
theorem rread_m (c : Cfg) (hc : CfgOK c) (rd dn : Nat → Int) (l : List Rec) (hr : fewN rd) (k : Int) (pc : Nat) (hpc : pc < 18446744073709551616) :
    AMut Try.prog 33 [.optr 0 0 0, i64V k, labV pc] [(0, some (rBox c rd dn (.own 1))), (1, some (recRow l))] 2
      (.tup [.agg (arrV (readP c rd k pc).2.1), i64V (readP c rd k pc).2.2]) [(0, some (rBox c (readP c rd k pc).1 dn (.own 1))), (1, some (recRow l))] 2 := by
  unfold readP
  by_cases hk : k < 0 ∨ 7 < k
  · rw [if_pos hk]
    refine AMut.sub ?_ (sub_zArr (i64V 14))
    refine amut_of code_scrimref25_Ports_Next (by simp [fn_scrimref25_Ports_Next]) fun C hC => ?_
    by_cases h0 : k < 0
    · refine walk3 ?_
      exact fin_m []
    · refine walk3 ?_
      exact fin_m []
  · rw [if_neg hk]
    obtain ⟨h0, h1, h2⟩ := not_bad hk
    have e1 := r_cl c rd dn (.own 1) k.toNat h2
    have cf := rmay_a c rd dn (.sl 8 (l.map recV)) pc (c.cl k.toNat) hpc (hc.cl _)
    cases hf : flowsN pc (c.cl k.toNat)
    · rw [hf] at cf
      rw [if_pos rfl]
      refine AMut.sub ?_ (sub_zArr (i64V 9))
      refine amut_of code_scrimref25_Ports_Next (by simp [fn_scrimref25_Ports_Next]) fun C hC => ?_
      refine walk3 ?_
      exact fin_m []
    · rw [hf] at cf
      rw [if_neg (by simp)]
      have e2 := r_rd c rd dn (.own 1) k.toNat h2
      have e3 := r_in c rd dn (.own 1) k.toNat h2
      obtain ⟨b1, b2⟩ := hr k.toNat
      have hL : (((((c.ins k.toNat).map arrR).length : Nat)) : Int) = ((c.ins k.toNat).length : Nat) := by simp
      by_cases hlt : (rd k.toNat).toNat < (c.ins k.toNat).length
      · obtain ⟨A, hA⟩ : ∃ A, (c.ins k.toNat)[(rd k.toNat).toNat]? = some A := ⟨_, List.getElem?_eq_getElem hlt⟩
        have ha := arr_at hA
        have hok := (hc.ins k.toNat).2 A (List.mem_of_getElem? hA)
        rw [hA]
        have hb : rd k.toNat < ((((c.ins k.toNat).map arrR).length : Nat) : Int) := by rw [hL]; omega
        have e4 := r_le c rd dn (.own 1) k.toNat 36 h2 (by omega)
        have e5 := r_rd_set c rd dn (.own 1) (rd k.toNat + 1) k.toNat h2
        have e6 := r_cl c (updF rd k.toNat (rd k.toNat + 1)) dn (.own 1) k.toNat h2
        have c2 := rcover_m c (updF rd k.toNat (rd k.toNat + 1)) dn l A hok (c.cl k.toNat) (hc.cl _)
        refine amut_of code_scrimref25_Ports_Next (by simp [fn_scrimref25_Ports_Next]) fun C hC => ?_
        refine walk3 ?_
        refine aw_reg (rrun3 ?_)
        refine r_callM [(0, 0), (1, 1)] c2 ?_
        refine rrun3 ?_
        refine rg_nil ⟨rfl, ?_⟩
        refine walk3 ?_
        exact fin_m []
      · rw [List.getElem?_eq_none (by omega)]
        refine AMut.sub ?_ (sub_zArr (i64V 6))
        refine amut_of code_scrimref25_Ports_Next (by simp [fn_scrimref25_Ports_Next]) fun C hC => ?_
        refine walk3 ?_
        exact fin_m []

set_option maxHeartbeats 4000000 in
set_option maxRecDepth 10000 in
theorem rdraw_m (c : Cfg) (hc : CfgOK c) (rd dn : Nat → Int) (l : List Rec) (hr : fewN dn) (k : Int) (pc : Nat) (hpc : pc < 18446744073709551616) :
    AMut Try.prog 35 [.optr 0 0 0, i64V k, labV pc] [(0, some (rBox c rd dn (.own 1))), (1, some (recRow l))] 2
      (.tup [.agg (arrV (drawP c dn k pc).2.1), i64V (drawP c dn k pc).2.2]) [(0, some (rBox c rd (drawP c dn k pc).1 (.own 1))), (1, some (recRow l))] 2 := by
  unfold drawP
  by_cases hk : k < 0 ∨ 7 < k
  · rw [if_pos hk]
    refine AMut.sub ?_ (sub_zArr (i64V 14))
    refine amut_of code_scrimref25_Ports_Draw (by simp [fn_scrimref25_Ports_Draw]) fun C hC => ?_
    by_cases h0 : k < 0
    · refine walk3 ?_
      exact fin_m []
    · refine walk3 ?_
      exact fin_m []
  · rw [if_neg hk]
    obtain ⟨h0, h1, h2⟩ := not_bad hk
    have e1 := r_lb c rd dn (.own 1) k.toNat h2
    have cf := rmay_a c rd dn (.sl 8 (l.map recV)) pc (c.lb k.toNat) hpc (hc.lb _)
    cases hf : flowsN pc (c.lb k.toNat)
    · rw [hf] at cf
      rw [if_pos rfl]
      refine AMut.sub ?_ (sub_zArr (i64V 9))
      refine amut_of code_scrimref25_Ports_Draw (by simp [fn_scrimref25_Ports_Draw]) fun C hC => ?_
      refine walk3 ?_
      exact fin_m []
    · rw [hf] at cf
      rw [if_neg (by simp)]
      have e2 := r_dn c rd dn (.own 1) k.toNat h2
      have e3 := r_dr c rd dn (.own 1) k.toNat h2
      obtain ⟨b1, b2⟩ := hr k.toNat
      have hL := intsA_len .i64 (c.dr k.toNat)
      by_cases hlt : (dn k.toNat).toNat < (c.dr k.toNat).length
      · obtain ⟨z, hz⟩ : ∃ A, (c.dr k.toNat)[(dn k.toNat).toNat]? = some A := ⟨_, List.getElem?_eq_getElem hlt⟩
        have ha := int_at (k := .i64) hz
        obtain ⟨z0, z1⟩ := (hc.dr k.toNat).2 z (List.mem_of_getElem? hz)
        rw [hz]
        have hb : dn k.toNat < (((intsA .i64 (c.dr k.toNat)).length : Nat) : Int) := by rw [hL]; omega
        have c0 := r8Int_a z z0 z1
        have e4 := r_le c rd dn (.own 1) k.toNat 44 h2 (by omega)
        have e5 := r_dn_set c rd dn (.own 1) (dn k.toNat + 1) k.toNat h2
        have e6 := r_lb c rd (updF dn k.toNat (dn k.toNat + 1)) (.own 1) k.toNat h2
        have c2 := rcoverO_m c rd (updF dn k.toNat (dn k.toNat + 1)) l z (numA_ok z0 z1) (c.lb k.toNat) (hc.lb _)
        refine amut_of code_scrimref25_Ports_Draw (by simp [fn_scrimref25_Ports_Draw]) fun C hC => ?_
        refine walk3 ?_
        refine aw_reg (rrun3 ?_)
        refine r_callM [(0, 0), (1, 1), (3, 2)] c2 ?_
        refine rrun3 ?_
        refine rg_nil ⟨rfl, ?_⟩
        refine walk3 ?_
        exact fin_m []
      · rw [List.getElem?_eq_none (by omega)]
        refine AMut.sub ?_ (sub_zArr (i64V 6))
        refine amut_of code_scrimref25_Ports_Draw (by simp [fn_scrimref25_Ports_Draw]) fun C hC => ?_
        refine walk3 ?_
        exact fin_m []
end Go.Proofs.Ytfnbhkeilcbmjaa
namespace Go.Proofs.Ytfnbhkeilcbmjaa
set_option linter.unusedVariables false
open Go.RowKit

set_option maxHeartbeats 4000000 in
set_option maxRecDepth 10000 in
theorem rsend_no (c : Cfg) (hc : CfgOK c) (rd dn : Nat → Int) (l : List Rec) (k : Int) (A : Arr) (hA : okA A) (pc : Nat) (hpc : pc < 18446744073709551616) (hno : (sendP c l k A pc).2 ≠ 0) :
    AMut Try.prog 36 [.optr 0 0 0, i64V k, .agg (arrV A), labV pc] [(0, some (rBox c rd dn (.own 1))), (1, some (recRow l))] 2
      (i64V (sendP c l k A pc).2) [(0, some (rBox c rd dn (.own 1))), (1, some (recRow l))] 2 := by
  unfold sendP at hno ⊢
  by_cases hk : k < 0 ∨ 7 < k
  · rw [if_pos hk]
    refine amut_of code_scrimref25_Ports_Send (by simp [fn_scrimref25_Ports_Send]) fun C hC => ?_
    by_cases h0 : k < 0
    · refine walk3 ?_
      exact fin_m []
    · refine walk3 ?_
      exact fin_m []
  · rw [if_neg hk] at hno ⊢
    obtain ⟨h0, h1, h2⟩ := not_bad hk
    have e1 := r_cl c rd dn (.own 1) k.toNat h2
    have ct := rtotal_a A hA
    have cj := rjoin_a pc (totA A) hpc (totA_lt A hA)
    have cf := rmay_a c rd dn (.sl 8 (l.map recV)) (pc ||| totA A) (c.cl k.toNat) (or_lt _ _ hpc (totA_lt A hA)) (hc.cl _)
    cases hf : flowsN (pc ||| totA A) (c.cl k.toNat)
    · rw [hf] at cf
      rw [if_pos rfl]
      refine amut_of code_scrimref25_Ports_Send (by simp [fn_scrimref25_Ports_Send]) fun C hC => ?_
      refine walk3 ?_
      exact fin_m []
    · rw [hf] at hno
      simp at hno

set_option maxHeartbeats 4000000 in
set_option maxRecDepth 10000 in
theorem rsend_m (c : Cfg) (hc : CfgOK c) (rd dn : Nat → Int) (l : List Rec) (hl : l.length ≤ 100000) (k : Int) (A : Arr) (hA : okA A) (pc : Nat) (hpc : pc < 18446744073709551616) (hok : (sendP c l k A pc).2 = 0) :
    AMut Try.prog 36 [.optr 0 0 0, i64V k, .agg (arrV A), labV pc] [(0, some (rBox c rd dn (.own 1))), (1, some (recRow l))] 2
      (i64V 0) [(0, some (rBox c rd dn (.own 2))), (1, none), (2, some (recRow (sendP c l k A pc).1))] 3 := by
  unfold sendP at hok ⊢
  by_cases hk : k < 0 ∨ 7 < k
  · rw [if_pos hk] at hok
    simp at hok
  · rw [if_neg hk] at hok ⊢
    obtain ⟨h0, h1, h2⟩ := not_bad hk
    have e1 := r_cl c rd dn (.own 1) k.toNat h2
    have ct := rtotal_a A hA
    have cj := rjoin_a pc (totA A) hpc (totA_lt A hA)
    have ce := r8Erase_a A hA
    have cf := rmay_a c rd dn (.sl 8 (l.map recV)) (pc ||| totA A) (c.cl k.toNat) (or_lt _ _ hpc (totA_lt A hA)) (hc.cl _)
    cases hf : flowsN (pc ||| totA A) (c.cl k.toNat)
    · rw [hf] at hok
      simp at hok
    · rw [hf] at cf
      rw [if_neg (by simp)]
      have hb : ((l.map recV).length + 1) * 96 ≤ 140737488355328 := by simp; omega
      have er : (l ++ [(⟨1, k, 0, 0, 0, eraA A⟩ : Rec)]).map recV = l.map recV ++ [recV ⟨1, k, 0, 0, 0, eraA A⟩] := by simp
      refine amut_of code_scrimref25_Ports_Send (by simp [fn_scrimref25_Ports_Send]) fun C hC => ?_
      rw [recRow, er]
      refine walk3 ?_
      exact fin_m [(2, 4)]

set_option maxHeartbeats 4000000 in
set_option maxRecDepth 10000 in
theorem rrele_no (c : Cfg) (hc : CfgOK c) (rd dn : Nat → Int) (l : List Rec) (to : Nat) (hto : to < 18446744073709551616) (A : Arr) (hA : okA A) (pc : Nat) (hpc : pc < 18446744073709551616) (hno : (releP c l to A pc).2.2 ≠ 0) :
    AMut Try.prog 37 [.optr 0 0 0, labV to, .agg (arrV A), labV pc] [(0, some (rBox c rd dn (.own 1))), (1, some (recRow l))] 2
      (.tup [.agg (arrV (releP c l to A pc).2.1), i64V (releP c l to A pc).2.2]) [(0, some (rBox c rd dn (.own 1))), (1, some (recRow l))] 2 := by
  have ct := rtotal_a A hA
  have cj := rjoin_a to c.au hto hc.au
  have cm := rmay_a c rd dn (.sl 8 (l.map recV)) (totA A) (to ||| c.au) (totA_lt A hA) (or_lt _ _ hto hc.au)
  unfold releP at hno ⊢
  cases h1 : flowsN (totA A) (to ||| c.au)
  · rw [h1] at cm
    rw [if_pos (.inl rfl)]
    refine AMut.sub ?_ (sub_zArr (i64V 9))
    refine amut_of code_scrimref25_Ports_Release (by simp [fn_scrimref25_Ports_Release]) fun C hC => ?_
    refine walk3 ?_
    exact fin_m []
  · rw [h1] at cm hno
    have cf := rmay_a c rd dn (.sl 8 (l.map recV)) pc to hpc hto
    cases h2 : flowsN pc to
    · rw [h2] at cf
      rw [if_pos (.inr rfl)]
      refine AMut.sub ?_ (sub_zArr (i64V 9))
      refine amut_of code_scrimref25_Ports_Release (by simp [fn_scrimref25_Ports_Release]) fun C hC => ?_
      refine walk3 ?_
      exact fin_m []
    · rw [h2] at hno
      simp at hno

set_option maxHeartbeats 4000000 in
set_option maxRecDepth 10000 in
theorem rrele_m (c : Cfg) (hc : CfgOK c) (rd dn : Nat → Int) (l : List Rec) (hl : l.length ≤ 100000) (to : Nat) (hto : to < 18446744073709551616) (A : Arr) (hA : okA A) (pc : Nat) (hpc : pc < 18446744073709551616) (hok : (releP c l to A pc).2.2 = 0) :
    AMut Try.prog 37 [.optr 0 0 0, labV to, .agg (arrV A), labV pc] [(0, some (rBox c rd dn (.own 1))), (1, some (recRow l))] 2
      (.tup [.agg (arrV (releP c l to A pc).2.1), i64V 0]) [(0, some (rBox c rd dn (.own 2))), (1, none), (2, some (recRow (releP c l to A pc).1))] 3 := by
  have ct := rtotal_a A hA
  have cj := rjoin_a to c.au hto hc.au
  have cm := rmay_a c rd dn (.sl 8 (l.map recV)) (totA A) (to ||| c.au) (totA_lt A hA) (or_lt _ _ hto hc.au)
  have cf := rmay_a c rd dn (.sl 8 (l.map recV)) pc to hpc hto
  have ce := r8Erase_a A hA
  unfold releP at hok ⊢
  by_cases hf : flowsN (totA A) (to ||| c.au) = false ∨ flowsN pc to = false
  · rw [if_pos hf] at hok; simp at hok
  · rw [if_neg hf]
    rw [show flowsN (totA A) (to ||| c.au) = true from by simp only [not_or, Bool.not_eq_false] at hf; exact hf.1] at cm
    rw [show flowsN pc to = true from by simp only [not_or, Bool.not_eq_false] at hf; exact hf.2] at cf
    have cc := rcover_m c rd dn (l ++ [(⟨2, 0, totA A, to, 0, eraA A⟩ : Rec)]) A hA to hto
    have hb : ((l.map recV).length + 1) * 96 ≤ 140737488355328 := by simp; omega
    have er : (l ++ [(⟨2, 0, totA A, to, 0, eraA A⟩ : Rec)]).map recV = l.map recV ++ [recV ⟨2, 0, totA A, to, 0, eraA A⟩] := by simp
    rw [recRow, er] at cc
    refine amut_of code_scrimref25_Ports_Release (by simp [fn_scrimref25_Ports_Release]) fun C hC => ?_
    rw [recRow, er]
    refine walk3 ?_
    refine aw_reg (rrun3 ?_)
    refine r_callM [(0, 0), (5, 1)] cc ?_
    refine rrun3 ?_
    refine rg_nil ⟨rfl, ?_⟩
    refine walk3 ?_
    exact fin_m [(2, 5)]

set_option maxHeartbeats 4000000 in
set_option maxRecDepth 10000 in
theorem rrepo_no (c : Cfg) (hc : CfgOK c) (rd dn : Nat → Int) (l : List Rec) (k : Int) (pc : Nat) (hpc : pc < 18446744073709551616) (hno : (repoP c l k pc).2 ≠ 0) :
    AMut Try.prog 38 [.optr 0 0 0, i64V k, labV pc] [(0, some (rBox c rd dn (.own 1))), (1, some (recRow l))] 2
      (i64V (repoP c l k pc).2) [(0, some (rBox c rd dn (.own 1))), (1, some (recRow l))] 2 := by
  have cf := rmay_a c rd dn (.sl 8 (l.map recV)) pc (c.cl 0) hpc (hc.cl _)
  unfold repoP at hno ⊢
  cases hf : flowsN pc (c.cl 0)
  · rw [hf] at cf
    rw [if_pos rfl]
    refine amut_of code_scrimref25_Ports_Report (by simp [fn_scrimref25_Ports_Report]) fun C hC => ?_
    refine walk3 ?_
    exact fin_m []
  · rw [hf] at hno; simp at hno

set_option maxHeartbeats 4000000 in
set_option maxRecDepth 10000 in
theorem rrepo_m (c : Cfg) (hc : CfgOK c) (rd dn : Nat → Int) (l : List Rec) (hl : l.length ≤ 100000) (k : Int) (pc : Nat) (hpc : pc < 18446744073709551616) (hok : (repoP c l k pc).2 = 0) :
    AMut Try.prog 38 [.optr 0 0 0, i64V k, labV pc] [(0, some (rBox c rd dn (.own 1))), (1, some (recRow l))] 2
      (i64V 0) [(0, some (rBox c rd dn (.own 2))), (1, none), (2, some (recRow (repoP c l k pc).1))] 3 := by
  have cf := rmay_a c rd dn (.sl 8 (l.map recV)) pc (c.cl 0) hpc (hc.cl _)
  unfold repoP at hok ⊢
  cases hf : flowsN pc (c.cl 0)
  · rw [hf] at hok; simp at hok
  · rw [hf] at cf
    rw [if_neg (by simp)]
    have hb : ((l.map recV).length + 1) * 96 ≤ 140737488355328 := by simp; omega
    have er : (l ++ [(⟨3, 0, 0, 0, k, zArr⟩ : Rec)]).map recV = l.map recV ++ [recV ⟨3, 0, 0, 0, k, zArr⟩] := by simp
    refine amut_of code_scrimref25_Ports_Report (by simp [fn_scrimref25_Ports_Report]) fun C hC => ?_
    rw [recRow, er]
    refine aw_postW ?_
    refine walk3 ?_
    exact ⟨_, weak_row 3 rfl rfl (es' := l.map recV ++ [recV ⟨3, 0, 0, 0, k, zArr⟩]) (by simp [chunk]) (fun im w vs => RdIE.appL (l := l.map recV) (a := [[i64V 3, i64V 0, labV 0, labV 0, i64V k, labV 0, .lit (.slice none 0 0), .lit (.slice none 0 0)]])
      (fun vs => RdIE.one (fun vs => RdIL.ofSub vs (SubL.cons (Sub.refl _) (SubL.cons (Sub.refl _) (SubL.cons (Sub.refl _) (SubL.cons (Sub.refl _) (SubL.cons (Sub.refl _) (SubL.cons (Sub.refl _) (SubL.cons (Sub.nil _) (SubL.cons (Sub.nil _) SubL.nil))))))))) vs)), fin_m [(2, 3)]⟩
end Go.Proofs.Ytfnbhkeilcbmjaa
