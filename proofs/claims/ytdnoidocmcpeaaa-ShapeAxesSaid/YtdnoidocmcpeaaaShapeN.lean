/- Walks: layer 7: the reference's Index; the law ShapePlaces. -/
import Derived.Test.YtdnoidocmcpeaaaShapeM
namespace Go.Proofs.Ytdnoidocmcpeaaa
set_option linter.unusedVariables false
open Go.RowKit

/-- the first place that is this one -/
def fstIdx (at' : List Int) : List (List Int) → Nat → Int
  | [], _ => -1
  | p :: ps, i => if intsP p at' then i else fstIdx at' ps (i + 1)

theorem fstIdx_none {at' : List Int} : ∀ (ps : List (List Int)) (i : Nat), (∀ p ∈ ps, p ≠ at') → fstIdx at' ps i = -1
  | [], _, _ => rfl
  | p :: ps, i, h => by
    have : intsP p at' = false := by simpa [intsP] using h p (by simp)
    rw [fstIdx, this]
    exact fstIdx_none ps (i + 1) (fun q hq => h q (by simp [hq]))

theorem fstIdx_some {at' : List Int} : ∀ (ps : List (List Int)) (i k : Nat), k < ps.length → ps[k]? = some at' → (∀ j, j < k → ps[j]? ≠ some at') → fstIdx at' ps i = (i + k : Nat)
  | [], _, _, h, _, _ => by simp at h
  | p :: ps, i, 0, _, hk, _ => by
    simp only [List.getElem?_cons_zero, Option.some.injEq] at hk
    have : intsP p at' = true := by simpa [intsP] using hk
    rw [fstIdx, this]; rfl
  | p :: ps, i, k + 1, h, hk, hj => by
    have h0 := hj 0 (by omega)
    have : intsP p at' = false := by simpa [intsP] using h0
    rw [fstIdx, this]
    have := fstIdx_some ps (i + 1) k (by simpa using h) (by simpa using hk) (fun j hjk => by have := hj (j + 1) (by omega); simpa using this)
    rw [show (if false = true then (i : Int) else fstIdx at' ps (i + 1)) = fstIdx at' ps (i + 1) from rfl, this]
    congr 1; omega

/-- how many places -/
def nPl (s : List Int) : Nat := if (cnt s).2 = 0 then (cnt s).1.toNat else 0

def ridx (s at' : List Int) : Int := fstIdx at' (placesP s (nPl s)) 0

theorem cnt_pos {s : List Int} (h : (cnt s).2 = 0) (hp : 0 < (cnt s).1) : ∀ z ∈ s, 0 < z := fun z hz => by
  have hs := cnt_small h z hz
  rcases Int.lt_or_eq_of_le hs.1 with h' | h'
  · exact h'
  · subst h'
    have := prodL_zero hz
    rw [← cnt_prod h] at this; omega

theorem ridx_eq (s at' : List Int) : ridx s at' = if (idx s at').2 then (idx s at').1 else -1 := by
  unfold ridx nPl
  by_cases h : (cnt s).2 = 0
  · rw [if_pos h]
    have hc0 := (cnt_le s).1
    by_cases hl : at'.length = s.length
    · have e : idx s at' = idxF (idxC s at' 0) := by unfold idx; rw [if_neg (by simp [h, hl])]
      cases hk : idxC s at' 0 with
      | none =>
        rw [e, hk]
        refine fstIdx_none _ _ fun p hp e => ?_
        obtain ⟨i, hi, rfl⟩ := List.mem_map.1 hp
        rw [List.mem_range] at hi
        have hpos := cnt_pos h (by omega)
        have := idxC_digR s i 0 hpos
        rw [e] at this
        rw [this] at hk; cases hk
      | some k =>
        obtain ⟨j, j0, j1, jk, jd, js⟩ := idxC_some s at' 0 k hl hk
        rw [e, hk]
        have hk' : k = j := by omega
        subst hk'
        show _ = k
        have hkn : k.toNat < (cnt s).1.toNat := by rw [cnt_prod h]; omega
        have := fstIdx_some (at' := at') (placesP s (cnt s).1.toNat) 0 k.toNat (by simpa [placesP] using hkn) (by
          simp only [placesP, List.getElem?_map, List.getElem?_range hkn, Option.map_some]
          rw [Int.toNat_of_nonneg j0, ← jd]) (fun i hi e => by
          simp only [placesP, List.getElem?_map, List.getElem?_range (Nat.lt_trans hi hkn), Option.map_some, Option.some.injEq] at e
          rw [jd] at e
          have := digR_inj js (by omega) (by omega) j0 j1 e
          omega)
        rw [this]; omega
    · have e : idx s at' = (0, false) := by unfold idx; rw [if_pos (by right; exact hl)]
      rw [e]
      refine fstIdx_none _ _ fun p hp e => ?_
      obtain ⟨i, hi, rfl⟩ := List.mem_map.1 hp
      apply hl
      rw [← e, digR_len]
  · rw [if_neg h]
    have e : idx s at' = (0, false) := by unfold idx; rw [if_pos (by left; exact h)]
    rw [e]; rfl

theorem idx_ge (s at' : List Int) : 0 ≤ (idx s at').1 ∧ (idx s at').1 ≤ 2048 ∧ ((idx s at').2 = false → (idx s at').1 = 0) := by
  unfold idx
  split
  · simp
  · rename_i h
    have hc : (cnt s).2 = 0 := by
      by_cases hh : (cnt s).2 = 0
      · exact hh
      · exact absurd (Or.inl hh) h
    have hl : at'.length = s.length := by
      by_cases hh : at'.length = s.length
      · exact hh
      · exact absurd (Or.inr hh) h
    cases hk : idxC s at' 0 with
    | none => simp [idxF]
    | some k =>
      obtain ⟨j, j0, j1, jk, _, _⟩ := idxC_some s at' 0 k hl hk
      have := cnt_prod hc
      have := (cnt_le s).2
      simp only [idxF]
      refine ⟨by omega, by omega, fun h => by simp at h⟩

/-- what Places hands back, whatever the shape -/
theorem places_any (a : Option Addr) (len cap : Nat) (zs : List Int) (w : World) (hl : zs.length = len) (h : RdI w .i64 a zs) :
    Calls Try.prog 18 #[.slice a len cap] w (RetPlaces w len (nPl zs) zs) := by
  by_cases hc : (cnt zs).2 = 0
  · have e : nPl zs = (cnt zs).1.toNat := if_pos hc
    rw [e]
    exact places_yes a len cap _ zs w hl h (by rw [Int.toNat_of_nonneg (cnt_le zs).1, ← hc])
  · have e : nPl zs = 0 := if_neg hc
    rw [e]
    refine (places_no a len cap zs w hl h hc).mono fun e w' ⟨he, hw⟩ => ?_
    subst hw
    exact ⟨none, 0, [], he, World.ownsRow_nil _ _ _ _, ⟨rfl, fun i zs hi => by simp [placesP] at hi⟩, Below.refl _ _⟩

theorem nPl_le (s : List Int) : nPl s ≤ 2048 := by
  unfold nPl
  have := cnt_le s
  split <;> omega

set_option maxHeartbeats 2000000 in
theorem rindex_c (a : Option Addr) (len cap : Nat) (zs : List Int) (a2 : Option Addr) (len2 cap2 : Nat) (ys : List Int) (w : World) (hl : zs.length = len) (h : RdI w .i64 a zs) (hl2 : ys.length = len2) (h2 : RdI w .i64 a2 ys) :
    Calls Try.prog 16 #[.slice a len cap, .slice a2 len2 cap2] w fun e w' => e = .returned (.int .i64 (ridx zs ys)) ∧ Below w.heap.size w w' := by
  have P := Lib.hid (places_any a len cap zs w hl h)
  have hn := nPl_le zs
  obtain ⟨n, hnn⟩ : ∃ n, nPl zs = n := ⟨_, rfl⟩
  have E : Hid (ridx zs ys = fstIdx ys ((placesP zs n).drop 0) (0 : Nat)) := by rw [Hid, ridx, hnn]; rfl
  rw [hnn] at P hn
  have HL := Lib.hid hl
  have HL2 := Lib.hid hl2
  have H2 := Lib.hid h2
  clear hl h hl2 h2 hnn
  go_enter Try.func16, Try.ntmps16
  go_wp2_with (go_at_call 18; refine P.out.mono ?_; rintro e w1 ⟨oa, oc, vs, rfl, hown, hrows, hb⟩)
  have HO := Lib.hid hown
  have HR := Lib.hid hrows
  have HB := Lib.hid hb
  clear hown hrows hb P
  go_loopw [6] (fun i wr => ∃ (k m : Nat), k ≤ n ∧ i = .int .i64 k ∧ wr = w1.drewN m ∧ Hid (ridx zs ys = fstIdx ys ((placesP zs n).drop k) k)) (fun i _ => n - (intOf i).toNat)
  case atStart => exact ⟨0, 0, Nat.zero_le _, rfl, rfl, E⟩
  case round =>
    obtain ⟨k, m, hk, rfl, rfl, hE⟩ := hrel
    by_cases hlt : k < n
    · have hpk : (placesP zs n)[k]? = some (digR zs k).2 := by simp [placesP, List.getElem?_range hlt]
      obtain ⟨b, c, hv, hS, hap, hblt⟩ := HR.out.2 k _ hpk
      obtain ⟨g, rfl⟩ : ∃ g, oa = some ⟨g, 0, none⟩ := by
        rcases HO.out.2 with ⟨h1, h2⟩ | ⟨g, c, cur, h1, _⟩
        · omega
        · simp only [Value.slice.injEq] at h1; exact ⟨g, h1.1⟩
      have hc1 : w1.cell? ⟨g, k, none⟩ = some (.slice b len c) := by rw [HO.out.cellAt k (by omega)]; exact hv
      have C : Hid (∀ x, intsP (digR zs k).2 ys = x → Calls Try.prog 19 #[.slice b len c, .slice a2 len2 cap2] (w1.drewN m) fun e w' => e = .returned (.bool x) ∧ ∃ n, w' = (w1.drewN m).drewN n) := fun x hx => by
        have := rints_c b len c (digR zs k).2 a2 len2 cap2 ys (w1.drewN m) hS.len (SlI.below hS (below_drewN (Below.refl w1.heap.size w1) m) (Nat.le_refl _)).rdI HL2.out ((H2.out.below HB.out (Nat.le_refl _)).below (below_drewN (Below.refl w1.heap.size w1) m) (Nat.le_refl _))
        rw [hx] at this; exact this
      cases hp : intsP (digR zs k).2 ys
      · have HP := Lib.hid hp
        have HE : Hid (ridx zs ys = fstIdx ys ((placesP zs n).drop (k + 1)) ((k + 1 : Nat))) := by rw [Hid, hE.out, dropA_cons hpk, fstIdx, hp]; rfl
        clear hE hp hpk hv hS hap hblt
        go_wp2_with (go_at_call 19; refine (C.out _ HP.out).mono ?_; rintro e w' ⟨rfl, nq, rfl⟩)
        go_roundw
        case rel => exact ⟨k + 1, _, by omega, by go_num, rfl, HE⟩
        case measure => simp [intOf]; omega
      · have HP := Lib.hid hp
        have HE : Hid (ridx zs ys = k) := by rw [Hid, hE.out, dropA_cons hpk, fstIdx, hp]; rfl
        clear hE hp hpk hv hS hap hblt
        go_wp2_with (go_at_call 19; refine (C.out _ HP.out).mono ?_; rintro e w' ⟨rfl, nq, rfl⟩)
        go_ret
        exact ⟨by rw [HE.out]; rfl, below_drewN HB.out _⟩
    · have HE : Hid (ridx zs ys = -1) := by rw [Hid, hE.out, drop_end (by simp [placesP]; omega)]; rfl
      clear hE
      go_wp2
      go_ret
      exact ⟨by rw [HE.out]; rfl, below_drewN HB.out _⟩

end Go.Proofs.Ytdnoidocmcpeaaa
