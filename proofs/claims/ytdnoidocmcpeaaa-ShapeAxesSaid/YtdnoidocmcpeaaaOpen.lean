/- From the form's reading of an argument to the plain facts of Base. -/
import Derived.Test.YtdnoidocmcpeaaaBase
import Derived.ProofKit
import Derived.OpenShut
import Derived.ShutString
import Derived.ChangeOld
import Derived.SizedLaws
namespace Go.Proofs.Ytdnoidocmcpeaaa
set_option linter.unusedVariables false
open Go.ChangeShapes Go.WideShapes Go.ChangeAt Go.RowKit

section
variable {H : Type} {enc : TypeId × Value → H} {P : Program} {w : World} {held : Bool}

/-- a slice of whole numbers that came in -/
theorem open_rdI {t e : TypeId} {k : IntKind} {fuel : Nat} {a : Option Addr} {len cap : Nat} {x : DataW H × List MemPlace}
    (ht : P.underlying t = some (.slice e)) (he : P.underlying e = some (.int k)) (hc : P.cellsOf e = 1) (hby : 0 < P.bytesOf e)
    (h : DataW.trod enc P w 0 (fun _ => true) held fuel t [.slice a len cap] = some x) (hw : ∀ n ∈ x.1.weights P t, n ≤ reachBytes) :
    ∃ zs : List Int, zs.length = len ∧ RdI w k a zs ∧ (∀ z ∈ zs, (Lit.int k z).wf = true) ∧ len ≤ cap ∧ cap * P.bytesOf e ≤ reachBytes := by
  rcases open_ints ht he hc h with ⟨hcs, hx⟩ | ⟨x0, l, c, zs, hcs, _, hl, hm, hz, hx, hcell, hwz⟩
  · simp at hcs
    obtain ⟨rfl, rfl, rfl⟩ := hcs
    exact ⟨[], rfl, RdI.nil _ _ _, by simp, Nat.le_refl _, by rw [Nat.zero_mul]; exact Nat.zero_le _⟩
  · simp only [List.cons.injEq, Value.slice.injEq, and_true] at hcs
    obtain ⟨rfl, rfl, rfl⟩ := hcs
    simp only [if_true] at hz
    have hb : cap * P.bytesOf e ≤ reachBytes := by
      have := hw (cap * P.bytesOf e) (by subst hx; simp [DataW.weights, ht, lits, List.length_take, List.length_drop]; left; congr 1; omega)
      exact this
    have hcap : cap ≤ reachBytes := Nat.le_trans (Nat.le_mul_of_pos_right _ hby) hb
    refine ⟨zs.take len, by simp; omega, ⟨fun i v hv => ?_, ?_⟩, fun z hz' => hwz z (List.mem_of_mem_take hz'), hl, hb⟩
    · have hi : i < zs.length ∧ i < len := by
        have := (List.getElem?_eq_some_iff.1 hv).1
        simp at this; omega
      have hc' := hcell i hi.1
      have hv' : v = .int k (zs.getD i 0) := by
        rw [List.getElem?_map, List.getElem?_take, if_pos hi.2] at hv
        simp [List.getElem?_eq_getElem hi.1] at hv
        simp [List.getD, List.getElem?_eq_getElem hi.1, hv]
      have h0 := hcell 0 (by omega)
      obtain ⟨b, off, spot⟩ := x0
      have hspot : spot = none := by simpa [Addr.add] using World.cell?_spot h0
      subst hspot
      have hadd : (⟨b, off, none⟩ : Addr).add i = ⟨b, off + i, none⟩ := addr_add b off i
      rw [hadd] at hc'
      exact ⟨b, off, rfl, World.block_lt_of_cell? w _ hc', by rw [hc', hv']⟩
    · simp only [List.length_map, List.length_take]
      have : reachBytes = 140737488351232 := by decide
      omega

theorem open_sli {t e : TypeId} {k : IntKind} {fuel : Nat} {a : Option Addr} {len cap : Nat} {x : DataW H × List MemPlace}
    (ht : P.underlying t = some (.slice e)) (he : P.underlying e = some (.int k)) (hc : P.cellsOf e = 1) (hby : 0 < P.bytesOf e)
    (h : DataW.trod enc P w 0 (fun _ => true) held fuel t [.slice a len cap] = some x) (hw : ∀ n ∈ x.1.weights P t, n ≤ reachBytes) :
    ∃ zs : List Int, SlI w k a len cap zs ∧ (∀ z ∈ zs, (Lit.int k z).wf = true) := by
  obtain ⟨zs, hl, hr, hwf, hle, _⟩ := open_rdI ht he hc hby h hw
  refine ⟨zs, ⟨by simpa using hl, fun hn => ?_, hle, hr, oneI _ _⟩, hwf⟩
  rcases open_ints ht he hc h with ⟨hcs, hx⟩ | ⟨x0, l, c, zs, hcs, _⟩
  · simp at hcs; exact hcs.2.2
  · simp at hcs; rw [hn] at hcs; simp at hcs
end
end Go.Proofs.Ytdnoidocmcpeaaa
