/- Flow: the law that ports do what the document says. -/
import Derived.Test.YtfnbhkeilcbmjaaFlowJ
namespace Go.Proofs.Ytfnbhkeilcbmjaa
set_option linter.unusedVariables false
open Go.RowKit

theorem deed_at {l : List Deed} {k : Nat} {r : Deed} (h : l[k]? = some r) : (l.map deedV)[k]? = some (deedV r) := by simp [h]
theorem recN_ok {c : Cfg} {d : Deed} {r : Rec} (h : recN c d = some r) (hd : deedOK d) (hA : okA d.v) : recOK r := by
  obtain ⟨d1, d2, d3, d4, d5⟩ := hd
  have e : arrOK (eraA d.v) := arrOK.relab (fun _ _ => by omega) d1
  have ht := totA_lt d.v hA
  unfold recN at h
  split at h
  · split at h
    · obtain rfl := Option.some.inj h; exact ⟨e, by show (0 : Nat) < _; omega, by show (0 : Nat) < _; omega⟩
    · cases h
  · split at h
    · split at h
      · obtain rfl := Option.some.inj h; exact ⟨e, ht, d3⟩
      · cases h
    · split at h
      · split at h
        · obtain rfl := Option.some.inj h; exact ⟨arrOK_z, by show (0 : Nat) < _; omega, by show (0 : Nat) < _; omega⟩
        · cases h
      · cases h

/-- so many at most -/
def upTo (f : Nat → Int) (k : Nat) : Prop := ∀ n, 0 ≤ f n ∧ f n ≤ k
theorem upTo.few {f : Nat → Int} {k : Nat} (h : upTo f k) (hk : k ≤ 30) : fewN f := fun n => by obtain ⟨h1, h2⟩ := h n; omega
theorem upTo.upd {f : Nat → Int} {k : Nat} (h : upTo f k) (j : Nat) : upTo (updF f j (f j + 1)) (k + 1) := fun n => by
  obtain ⟨h1, h2⟩ := h n
  obtain ⟨h3, h4⟩ := h j
  unfold updF
  cases Nat.beq n j
  · exact ⟨by simpa using h1, by simp; omega⟩
  · exact ⟨by simp; omega, by simp; omega⟩
theorem upTo.more {f : Nat → Int} {k : Nat} (h : upTo f k) : upTo f (k + 1) := fun n => by obtain ⟨h1, h2⟩ := h n; omega
theorem rdN_upTo {c : Cfg} {d : Deed} {rd : Nat → Int} {k : Nat} (h : upTo rd k) : upTo (rdN c d rd) (k + 1) := by
  unfold rdN
  split
  · unfold readP
    split
    · exact h.more
    · split
      · exact h.more
      · split
        · exact h.more
        · exact h.upd _
  · exact h.more
theorem dnN_upTo {c : Cfg} {d : Deed} {dn : Nat → Int} {k : Nat} (h : upTo dn k) : upTo (dnN c d dn) (k + 1) := by
  unfold dnN
  split
  · unfold drawP
    split
    · exact h.more
    · split
      · exact h.more
      · split
        · exact h.more
        · exact h.upd _
  · exact h.more

structure PSt where
  k : Nat
  rd : Nat → Int
  dn : Nat → Int
  rs : List Rec

set_option maxHeartbeats 8000000 in
set_option maxRecDepth 10000 in
theorem flowPlays_a (c : Cfg) (l : List Deed) (hT : CfgT c) (hd : ∀ d ∈ l, deedOK d) (hlen : l.length ≤ reachBytes) :
    ACalls Try.prog 3 [.agg (cfgV c), .sl 7 (l.map deedV)] (.lit (.bool true)) := by
  have hR : reachBytes = 140737488351232 := rfl
  have hL : (((l.map deedV).length : Nat) : Int) = (l.length : Nat) := by simp
  have ca := awake25_a
  have cf := few25_a c hT
  refine acalls_of code_scrimlaw25_FlowPlays (by simp [fn_scrimlaw25_FlowPlays]) fun C hC => ?_
  cases hf : few25 c
  · rw [hf] at cf
    refine walk3 ?_
    exact fin
  · rw [hf] at cf
    have hc := cfgOK_of hT hf
    have cn := new_m c (fun k _ => (hc.ins k).1) (fun k _ => (hc.dr k).1)
    refine walk3 ?_
    refine aw_reg (rrun3 ?_)
    refine r_callN [] cn ?_
    refine rrun3 ?_
    refine rg_nil ⟨rfl, ?_⟩
    refine aw_nilF 1 52 52 8 rfl rfl rfl rfl ?_
    refine walk3 ?_
    refine aw_nilF 3 52 52 8 rfl rfl rfl rfl ?_
    refine aw_loopB [1, 2, 4, 5, 6] [0] (fun x : PSt => [(7, i64V x.k)]) (fun x => [(1, some (pBox c x.rd x.dn (.own 2))), (2, some (recRow x.rs)), (3, some (rBox c x.rd x.dn (.own 4))), (4, some (recRow x.rs))]) 5
      (fun x => x.k ≤ 30 ∧ x.k ≤ l.length ∧ upTo x.rd x.k ∧ upTo x.dn x.k ∧ x.rs.length ≤ x.k ∧ ∀ r ∈ x.rs, recOK r) (fun x => 30 - x.k) ⟨0, fun _ => 0, fun _ => 0, []⟩ ⟨by simp, by simp, fun n => by simp, fun n => by simp, by simp, fun r h => by cases h⟩ ?_
    rintro ⟨k, rd, dn, rs⟩ ⟨i1, i2, i3, i4, i5, i6⟩
    dsimp only [List.cons_append, List.nil_append] at i1 i2 i3 i4 i5 i6 ⊢
    by_cases hlt : k < l.length
    · by_cases h30 : k < 30
      · obtain ⟨d, hdk⟩ : ∃ d, l[k]? = some d := ⟨_, List.getElem?_eq_getElem hlt⟩
        have hda := deed_at hdk
        have hdo := hd d (List.mem_of_getElem? hdk)
        have cw := few_a d.v hdo.1
        cases hw : fewP d.v
        · rw [hw] at cw
          refine walk3 ?_
          exact fin
        · rw [hw] at cw
          have hA := few_ok hdo.1 hw
          cases hr : recN c d with
          | none =>
            have cd := does_no c hc hT d hdo hA rd dn rd dn rs rs (i3.few i1) (i4.few i1) (i3.few i1) (i4.few i1) (by omega) (by omega) hr
            rw [doesB_refl] at cd
            have cr := records_m c (rdN c d rd) (dnN c d dn) rs (by omega)
            have cl := rall_a rs (by omega) (fun r h => (i6 r h).1)
            refine walk3 ?_
            refine aw_reg (rrun3 ?_)
            refine r_callM [(1, 0), (2, 1), (3, 2), (4, 3)] cd ?_
            refine rrun3 ?_
            refine r_callM [(1, 0), (2, 1)] cr ?_
            refine rrun3 ?_
            refine rg_nil ⟨rfl, ?_⟩
            refine walk3 ?_
            exact ⟨⟨k + 1, rdN c d rd, dnN c d dn, rs⟩, by show 30 - (k + 1) < 30 - k; omega, ⟨by show k + 1 ≤ 30; omega, by show k + 1 ≤ l.length; omega, rdN_upTo i3, dnN_upTo i4, by show rs.length ≤ k + 1; omega, i6⟩, wkR hC.m []⟩
          | some r =>
            have cd := does_yes c hc hT d hdo hA rd dn rd dn rs rs (i3.few i1) (i4.few i1) (i3.few i1) (i4.few i1) (by omega) (by omega) r hr
            have hok : ∀ q ∈ rs ++ [r], recOK q := fun q h => by
              rcases List.mem_append.1 h with h | h
              · exact i6 q h
              · obtain rfl : q = r := by simpa using h
                exact recN_ok hr hdo hA
            have cr := records_m c rd dn (rs ++ [r]) (by simp; omega)
            have cl := rall_a (rs ++ [r]) (by simp; omega) (fun r h => (hok r h).1)
            refine walk3 ?_
            refine aw_reg (rrun3 ?_)
            refine r_callN2 [(1, 0), (2, 1), (3, 2), (4, 3)] cd ?_
            refine rrun3 ?_
            refine r_callM [(1, 0), (5, 1)] cr ?_
            refine rrun3 ?_
            refine rg_nil ⟨rfl, ?_⟩
            refine walk3 ?_
            exact ⟨⟨k + 1, rd, dn, rs ++ [r]⟩, by show 30 - (k + 1) < 30 - k; omega, ⟨by show k + 1 ≤ 30; omega, by show k + 1 ≤ l.length; omega, i3.more, i4.more, by simp; omega, hok⟩, wkR hC.m [(2, 5), (4, 6)]⟩
      · refine walk3 ?_
        exact fin
    · refine walk3 ?_
      exact fin
end Go.Proofs.Ytfnbhkeilcbmjaa
