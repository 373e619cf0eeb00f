/- Flow: the law that what was recorded could flow. -/
import Derived.Test.YtfnbhkeilcbmjaaFlowM
namespace Go.Proofs.Ytfnbhkeilcbmjaa
set_option linter.unusedVariables false
open Go.RowKit

mutual
theorem tot_era : ∀ (A : Arr), totA (eraA A) = 0
  | .mk s sh cs => by
    simp only [eraA, relabA, totA]
    exact tot_eraCs cs
theorem tot_eraCs : ∀ (cs : List Cell), totCs (relabCs (fun _ => 0) cs) 0 = 0
  | [] => by simp [relabCs, totCs]
  | c :: cs => by
    simp only [relabCs, totCs]
    rw [tot_eraC c]
    exact tot_eraCs cs
theorem tot_eraC : ∀ (c : Cell), totC (relabC (fun _ => 0) c) 0 = 0
  | .mk l k n ch ins => by
    simp only [relabC, totC, Nat.or_zero]
    exact tot_eraAs ins
theorem tot_eraAs : ∀ (xs : List Arr), totAs (relabAs (fun _ => 0) xs) 0 = 0
  | [] => by simp [relabAs, totAs]
  | a :: xs => by
    simp only [relabAs, totAs]
    rw [show totA (relabA (fun _ => 0) a) = 0 from tot_era a, Nat.or_zero]
    exact tot_eraAs xs
end
theorem tot_z : totA zArr = 0 := by simp [zArr, totA, totCs]
theorem okA_z : okA zArr := ⟨by omega, by simp, by simp, trivial⟩

/-- what a record tells of the deed that made it -/
inductive Sound (c : Cfg) (d : Deed) : Rec → Prop
  | out (h0 : 0 ≤ d.k) (h1 : d.k < 8) (hf : flowsN (d.l ||| totA d.v) (c.cl d.k.toNat) = true) : Sound c d ⟨1, d.k, 0, 0, 0, eraA d.v⟩
  | rel (h1 : flowsN (totA d.v) (d.to ||| c.au) = true) (h2 : flowsN d.l d.to = true) : Sound c d ⟨2, 0, totA d.v, d.to, 0, eraA d.v⟩
  | rep (h1 : flowsN d.l (c.cl 0) = true) : Sound c d ⟨3, 0, 0, 0, d.k, zArr⟩
theorem sound_of {c : Cfg} {d : Deed} {r : Rec} (h : recN c d = some r) : Sound c d r := by
  unfold recN at h
  split at h
  · split at h
    · rename_i hs
      obtain rfl := Option.some.inj h
      unfold sendP at hs
      split at hs
      · simp at hs
      · rename_i hk
        split at hs
        · simp at hs
        · rename_i hf
          exact .out (by omega) (by omega) (by simpa using hf)
    · cases h
  · split at h
    · split at h
      · rename_i hs
        obtain rfl := Option.some.inj h
        unfold releP at hs
        split at hs
        · simp at hs
        · rename_i hf
          simp only [not_or, Bool.not_eq_false] at hf
          exact .rel hf.1 hf.2
      · cases h
    · split at h
      · split at h
        · rename_i hs
          obtain rfl := Option.some.inj h
          unfold repoP at hs
          split at hs
          · simp at hs
          · rename_i hf
            exact .rep (by simpa using hf)
        · cases h
      · cases h

set_option maxHeartbeats 8000000 in
set_option maxRecDepth 10000 in
theorem flowSound_a (c : Cfg) (l : List Deed) (hT : CfgT c) (hd : ∀ d ∈ l, deedOK d) (hlen : l.length ≤ reachBytes) :
    ACalls Try.prog 4 [.agg (cfgV c), .sl 7 (l.map deedV)] (.lit (.bool true)) := by
  have hR : reachBytes = 140737488351232 := rfl
  have hL : (((l.map deedV).length : Nat) : Int) = (l.length : Nat) := by simp
  have ca := awake25_a
  have cf := few25_a c hT
  refine acalls_of code_scrimlaw25_FlowSound (by simp [fn_scrimlaw25_FlowSound]) fun C hC => ?_
  cases hf : few25 c
  · rw [hf] at cf
    refine walk3 ?_
    exact fin
  · rw [hf] at cf
    have hc := cfgOK_of hT hf
    have cn := new_m c (fun k _ => (hc.ins k).1) (fun k _ => (hc.dr k).1)
    refine walk3 ?_
    refine aw_reg (rrun3 ?_)
    refine r_callN [] cn ?_
    refine rrun3 ?_
    refine rg_nil ⟨rfl, ?_⟩
    refine aw_nilF 1 52 52 8 rfl rfl rfl rfl ?_
    refine walk3 ?_
    refine aw_loopB [1, 2, 4, 5] [0] (fun x : PSt => [(6, i64V x.k)]) (fun x => [(1, some (pBox c x.rd x.dn (.own 2))), (2, some (recRow x.rs))]) 3
      (fun x => x.k ≤ 30 ∧ x.k ≤ l.length ∧ upTo x.rd x.k ∧ upTo x.dn x.k ∧ x.rs.length ≤ x.k ∧ ∀ r ∈ x.rs, recOK r) (fun x => 30 - x.k) ⟨0, fun _ => 0, fun _ => 0, []⟩ ⟨by simp, by simp, fun n => by simp, fun n => by simp, by simp, fun r h => by cases h⟩ ?_
    rintro ⟨k, rd, dn, rs⟩ ⟨i1, i2, i3, i4, i5, i6⟩
    dsimp only [List.cons_append, List.nil_append] at i1 i2 i3 i4 i5 i6 ⊢
    by_cases hlt : k < l.length
    · by_cases h30 : k < 30
      · obtain ⟨d, hdk⟩ : ∃ d, l[k]? = some d := ⟨_, List.getElem?_eq_getElem hlt⟩
        have hda := deed_at hdk
        have hdo := hd d (List.mem_of_getElem? hdk)
        have cw := few_a d.v hdo.1
        cases hw : fewP d.v
        · rw [hw] at cw
          refine walk3 ?_
          exact fin
        · rw [hw] at cw
          have hA := few_ok hdo.1 hw
          have cr := records_m c rd dn rs (by omega)
          have hrl : (((rs.map recV).length : Nat) : Int) = (rs.length : Nat) := by simp
          cases hr : recN c d with
          | none =>
            have cd := sole_no c hc hT d hdo hA rd dn rs (i3.few i1) (i4.few i1) (by omega) hr
            have cr2 := records_m c (rdN c d rd) (dnN c d dn) rs (by omega)
            refine walk3 ?_
            refine aw_reg (rrun3 ?_)
            refine r_callM [(1, 0), (2, 1)] cr ?_
            refine rrun3 ?_
            refine rg_nil ⟨rfl, ?_⟩
            refine walk3 ?_
            refine aw_reg (rrun3 ?_)
            refine r_callM [(1, 0), (2, 1), (4, 2)] cd ?_
            refine rrun3 ?_
            refine rg_nil ⟨rfl, ?_⟩
            refine walk3 ?_
            refine aw_reg (rrun3 ?_)
            refine r_callM [(1, 0), (2, 1)] cr2 ?_
            refine rrun3 ?_
            refine rg_nil ⟨rfl, ?_⟩
            refine walk3 ?_
            exact ⟨⟨k + 1, rdN c d rd, dnN c d dn, rs⟩, by show 30 - (k + 1) < 30 - k; omega, ⟨by show k + 1 ≤ 30; omega, by show k + 1 ≤ l.length; omega, rdN_upTo i3, dnN_upTo i4, by show rs.length ≤ k + 1; omega, i6⟩, wkR hC.m []⟩
          | some r =>
            have cd := sole_yes c hc hT d hdo hA rd dn rs (i3.few i1) (i4.few i1) (by omega) r hr
            have hok : ∀ q ∈ rs ++ [r], recOK q := fun q h => by
              rcases List.mem_append.1 h with h | h
              · exact i6 q h
              · obtain rfl : q = r := by simpa using h
                exact recN_ok hr hdo hA
            have cr2 := records_m c rd dn (rs ++ [r]) (by simp; omega)
            have hrl2 : ((((rs ++ [r]).map recV).length : Nat) : Int) = ((rs.length + 1 : Nat) : Int) := by simp
            have hrx : ((rs ++ [r]).map recV)[((rs.length : Nat) : Int).toNat]? = some (recV r) := by
              show ((rs ++ [r]).map recV)[rs.length]? = _
              simp
            have hd2 := hdo.2.1
            have hd3 := hdo.2.2.1
            have htl := totA_lt d.v hA
            have ct := rtotal_a d.v hA
            have cj := rjoin_a d.l (totA d.v) hd2 htl
            cases sound_of hr with
            | out h0 h1 hf2 =>
              have e1 := cfg_cl c d.k.toNat (by omega)
              have cfl := rflows_a (d.l ||| totA d.v) (c.cl d.k.toNat) (or_lt _ _ hd2 htl) (hc.cl _)
              rw [hf2] at cfl
              have ce := rtotal_a (eraA d.v) (okA_era hA)
              rw [tot_era] at ce
              refine walk3 ?_
              refine aw_reg (rrun3 ?_)
              refine r_callM [(1, 0), (2, 1)] cr ?_
              refine rrun3 ?_
              refine rg_nil ⟨rfl, ?_⟩
              refine walk3 ?_
              refine aw_reg (rrun3 ?_)
              refine r_callN [(1, 0), (2, 1), (4, 2)] cd ?_
              refine rrun3 ?_
              refine rg_nil ⟨rfl, ?_⟩
              refine walk3 ?_
              refine aw_reg (rrun3 ?_)
              refine r_callM [(1, 0), (5, 1)] cr2 ?_
              refine rrun3 ?_
              refine rg_nil ⟨rfl, ?_⟩
              refine walk3 ?_
              exact ⟨⟨k + 1, rd, dn, rs ++ [_]⟩, by show 30 - (k + 1) < 30 - k; omega, ⟨by show k + 1 ≤ 30; omega, by show k + 1 ≤ l.length; omega, i3.more, i4.more, by simp; omega, hok⟩, wkR hC.m [(2, 5)]⟩
            | rel hf2 hf3 =>
              have cj2 := rjoin_a d.to c.au hd3 hc.au
              have cfl := rflows_a (totA d.v) (d.to ||| c.au) htl (or_lt _ _ hd3 hc.au)
              have cfl2 := rflows_a d.l d.to hd2 hd3
              have cfl3 := rflows_a (totA d.v) d.to htl hd3
              rw [hf2] at cfl
              rw [hf3] at cfl2
              have ce := rtotal_a (eraA d.v) (okA_era hA)
              rw [tot_era] at ce
              by_cases hau : c.au = 0
              · rw [hau, Nat.or_zero] at hf2
                rw [hf2] at cfl3
                refine walk3 ?_
                refine aw_reg (rrun3 ?_)
                refine r_callM [(1, 0), (2, 1)] cr ?_
                refine rrun3 ?_
                refine rg_nil ⟨rfl, ?_⟩
                refine walk3 ?_
                refine aw_reg (rrun3 ?_)
                refine r_callN [(1, 0), (2, 1), (4, 2)] cd ?_
                refine rrun3 ?_
                refine rg_nil ⟨rfl, ?_⟩
                refine walk3 ?_
                refine aw_reg (rrun3 ?_)
                refine r_callM [(1, 0), (5, 1)] cr2 ?_
                refine rrun3 ?_
                refine rg_nil ⟨rfl, ?_⟩
                refine walk3 ?_
                exact ⟨⟨k + 1, rd, dn, rs ++ [_]⟩, by show 30 - (k + 1) < 30 - k; omega, ⟨by show k + 1 ≤ 30; omega, by show k + 1 ≤ l.length; omega, i3.more, i4.more, by simp; omega, hok⟩, wkR hC.m [(2, 5)]⟩
              · refine walk3 ?_
                refine aw_reg (rrun3 ?_)
                refine r_callM [(1, 0), (2, 1)] cr ?_
                refine rrun3 ?_
                refine rg_nil ⟨rfl, ?_⟩
                refine walk3 ?_
                refine aw_reg (rrun3 ?_)
                refine r_callN [(1, 0), (2, 1), (4, 2)] cd ?_
                refine rrun3 ?_
                refine rg_nil ⟨rfl, ?_⟩
                refine walk3 ?_
                refine aw_reg (rrun3 ?_)
                refine r_callM [(1, 0), (5, 1)] cr2 ?_
                refine rrun3 ?_
                refine rg_nil ⟨rfl, ?_⟩
                refine walk3 ?_
                exact ⟨⟨k + 1, rd, dn, rs ++ [_]⟩, by show 30 - (k + 1) < 30 - k; omega, ⟨by show k + 1 ≤ 30; omega, by show k + 1 ≤ l.length; omega, i3.more, i4.more, by simp; omega, hok⟩, wkR hC.m [(2, 5)]⟩
            | rep hf2 =>
              have cfl := rflows_a d.l (c.cl 0) hd2 (hc.cl _)
              rw [hf2] at cfl
              have ce := rtotal_a zArr okA_z
              rw [tot_z] at ce
              refine walk3 ?_
              refine aw_reg (rrun3 ?_)
              refine r_callM [(1, 0), (2, 1)] cr ?_
              refine rrun3 ?_
              refine rg_nil ⟨rfl, ?_⟩
              refine walk3 ?_
              refine aw_reg (rrun3 ?_)
              refine r_callN [(1, 0), (2, 1), (4, 2)] cd ?_
              refine rrun3 ?_
              refine rg_nil ⟨rfl, ?_⟩
              refine walk3 ?_
              refine aw_reg (rrun3 ?_)
              refine r_callM [(1, 0), (5, 1)] cr2 ?_
              refine rrun3 ?_
              refine rg_nil ⟨rfl, ?_⟩
              refine walk3 ?_
              exact ⟨⟨k + 1, rd, dn, rs ++ [_]⟩, by show 30 - (k + 1) < 30 - k; omega, ⟨by show k + 1 ≤ 30; omega, by show k + 1 ≤ l.length; omega, i3.more, i4.more, by simp; omega, hok⟩, wkR hC.m [(2, 5)]⟩
      · refine walk3 ?_
        exact fin
    · refine walk3 ?_
      exact fin
end Go.Proofs.Ytfnbhkeilcbmjaa
