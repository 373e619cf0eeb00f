/- Walks: layer 7: all places; the reference's Index. -/
import Derived.Test.YtdnoidocmcpeaaaShapeL
import Derived.Test.YtdnoidocmcpeaaaBase2
import Derived.Test.YtdnoidocmcpeaaaShapeP4
namespace Go.Proofs.Ytdnoidocmcpeaaa
set_option linter.unusedVariables false
open Go.RowKit

theorem elII : ElemT Try.prog 35 22 (.slice none 0 0) 1 24 := ⟨Try.underlying35, by kernel_rfl, rfl, by decide⟩

/-- a row of slices, each of which reads as one of these lists, none over the row itself -/
def RowsI (w : World) (row : Option Nat) (len : Nat) (vs : List Value) (zss : List (List Int)) : Prop :=
  vs.length = zss.length ∧ ∀ (i : Nat) (zs : List Int), zss[i]? = some zs → ∃ (b : Option Addr) (c : Nat), vs[i]? = some (Value.slice b len c) ∧ SlI w .i64 b len c zs ∧ Apart b row ∧ ∀ x, b = some x → x.block < w.heap.size

theorem RowsI.below {w w' : World} {B : Nat} {row : Option Nat} {len : Nat} {vs : List Value} {zss : List (List Int)} (h : RowsI w row len vs zss) (hb : Below B w w') (hB : w.heap.size ≤ B) : RowsI w' row len vs zss :=
  ⟨h.1, fun i zs hi => by
    obtain ⟨b, c, h1, h2, h3, h4⟩ := h.2 i zs hi
    exact ⟨b, c, h1, Sl.below h2 hb hB, h3, fun x hx => Nat.lt_of_lt_of_le (h4 x hx) hb.size⟩⟩

theorem apart_of {w : World} {row row' : Option Nat} {a : Option Addr} (h : Apart a row) (hlt : ∀ x, a = some x → x.block < w.heap.size) (hr : row' = row ∨ ∀ k, row' = some k → w.heap.size ≤ k) : Apart a row' := fun x hx e => by
  rcases hr with rfl | hr
  · exact h x hx e
  · have := hr x.block e.symm
    have := hlt x hx
    omega

theorem RowsI.grown {w w' : World} {row row' : Option Nat} {len : Nat} {vs : List Value} {zss : List (List Int)} (h : RowsI w row len vs zss) (hg : w.grownBy w' row) (hr : row' = row ∨ ∀ k, row' = some k → w.heap.size ≤ k) : RowsI w' row' len vs zss :=
  ⟨h.1, fun i zs hi => by
    obtain ⟨b, c, h1, h2, h3, h4⟩ := h.2 i zs hi
    exact ⟨b, c, h1, Sl.grown h2 hg h3, apart_of h3 h4 hr, fun x hx => Nat.lt_of_lt_of_le (h4 x hx) hg.size⟩⟩

theorem ownsRow_below {w w' : World} {B base : Nat} {e : TypeId} {size n : Nat} {v : Value} {xs : List Value} (h : w.ownsRow base e size v n xs) (hb : Below B w w') (hB : w.heap.size ≤ B) : w'.ownsRow base e size v n xs :=
  h.kept (row := none) ⟨hb.os, hb.tape, hb.output, hb.size, fun k hk _ => hb.block k (Nat.lt_of_lt_of_le hk hB)⟩ (by cases hv : v.ownBlock <;> simp)

theorem RowsI.snoc {w : World} {row : Option Nat} {len c : Nat} {vs : List Value} {zss : List (List Int)} {b : Option Addr} {zs : List Int} (h : RowsI w row len vs zss) (h1 : SlI w .i64 b len c zs) (h2 : Apart b row) (h3 : ∀ x, b = some x → x.block < w.heap.size) : RowsI w row len (vs ++ [.slice b len c]) (zss ++ [zs]) := by
  refine ⟨by simp [h.1], fun i zs' hi => ?_⟩
  by_cases hlt : i < zss.length
  · rw [List.getElem?_append_left hlt] at hi
    obtain ⟨b', c', h1', rest⟩ := h.2 i zs' hi
    exact ⟨b', c', by rw [List.getElem?_append_left (by rw [h.1]; exact hlt)]; exact h1', rest⟩
  · rw [List.getElem?_append_right (by omega)] at hi
    have hi0 : i - zss.length = 0 := by
      have := (List.getElem?_eq_some_iff.1 hi).1
      simp at this; omega
    rw [hi0] at hi
    simp only [List.getElem?_cons_zero, Option.some.injEq] at hi
    subst hi
    exact ⟨b, c, by rw [List.getElem?_append_right (by rw [h.1]; omega), h.1, hi0]; rfl, h1, h2, h3⟩

theorem digR_range : ∀ (s : List Int) (n : Int), 0 ≤ n → (∀ z ∈ s, 0 < z) → (∀ z ∈ s, z ≤ 2048) → n < prodL s → ∀ d ∈ (digR s n).2, 0 ≤ d ∧ d ≤ 4096
  | [], n, _, _, _, _, d, hd => by simp [digR] at hd
  | z :: s, n, h0, hp, hs, hn, d, hd => by
    simp only [digR, List.mem_cons] at hd
    have hz := hp z (by simp)
    have hz2 := hs z (by simp)
    rcases hd with rfl | hd
    · have a := Int.emod_nonneg (digR s n).1 (Int.ne_of_gt hz)
      have b := Int.emod_lt_of_pos (digR s n).1 hz
      omega
    · have hps := prodL_pos s (fun y hy => hp y (by simp [hy]))
      have e : (digR s n).2 = (digR s (n % prodL s)).2 := digR_mod s _ _ (fun y hy => hp y (by simp [hy])) (by rw [Int.emod_emod_of_dvd _ (Int.dvd_refl _)])
      rw [e] at hd
      exact digR_range s (n % prodL s) (Int.emod_nonneg _ (Int.ne_of_gt hps)) (fun y hy => hp y (by simp [hy])) (fun y hy => hs y (by simp [hy])) (Int.emod_lt_of_pos _ hps) d hd

/-- the places of all cells, in order -/
def placesP (s : List Int) (n : Nat) : List (List Int) := (List.range n).map fun (i : Nat) => (digR s (i : Int)).2

/-- what Places hands back -/
def RetPlaces (w : World) (len n : Nat) (zs : List Int) (e : Ending) (w' : World) : Prop :=
  ∃ a' c' vs, e = .returned (.slice a' n c') ∧ w'.ownsRow w.heap.size 22 1 (.slice a' n c') n vs ∧ RowsI w' ((Value.slice a' n c').ownBlock) len vs (placesP zs n) ∧ Below w.heap.size w w'

set_option maxHeartbeats 1000000 in
theorem places_no (a : Option Addr) (len cap : Nat) (zs : List Int) (w : World) (hl : zs.length = len) (h : RdI w .i64 a zs) (hno : (cnt zs).2 ≠ 0) :
    Calls Try.prog 18 #[.slice a len cap] w fun e w' => e = .returned (.slice none 0 0) ∧ w = w' := by
  have C : Hid (∀ x y, cnt zs = (x, y) → Calls Try.prog 13 #[.slice a len cap] w fun e w' => e = .returned (.tuple #[.int .i64 x, .int .i64 y]) ∧ w = w') := fun x y hx => by
    have := rcount_c a len cap zs w hl h
    rw [rcnt_eq, hx] at this; exact this
  obtain ⟨x, y, hx⟩ : ∃ x y, cnt zs = (x, y) := ⟨(cnt zs).1, (cnt zs).2, rfl⟩
  rw [hx] at hno
  have HX := Lib.hid hx
  have hy2 : (y != 0) = true := by simpa using hno
  clear hl h hx hno
  go_enter Try.func18, Try.ntmps18
  go_wp2_with (refine (C.out _ _ HX.out).mono ?_; rintro e w' ⟨rfl, rfl⟩)
  go_ret
  exact ⟨rfl, rfl⟩

set_option maxHeartbeats 2000000 in
theorem places_yes (a : Option Addr) (len cap n : Nat) (zs : List Int) (w : World) (hl : zs.length = len) (h : RdI w .i64 a zs) (hc : cnt zs = ((n : Int), 0)) :
    Calls Try.prog 18 #[.slice a len cap] w (RetPlaces w len n zs) := by
  have C : Hid (∀ x y, cnt zs = (x, y) → Calls Try.prog 13 #[.slice a len cap] w fun e w' => e = .returned (.tuple #[.int .i64 x, .int .i64 y]) ∧ w = w') := fun x y hx => by
    have := rcount_c a len cap zs w hl h
    rw [rcnt_eq, hx] at this; exact this
  have hlen := cnt_len (s := zs) (by rw [hc])
  have hn2 := (cnt_le zs).2
  rw [hc] at hn2
  have hn3 : (n : Int) ≤ 2048 := hn2
  have hn : n ≤ 2048 := by omega
  have hlen6 : len ≤ 6 := by omega
  have HC := Lib.hid hc
  have HL := Lib.hid hl
  have H := Lib.hid h
  have HP : Hid (0 < n → ∀ z ∈ zs, 0 < z) := fun h0 z hz => by
    have hs := cnt_small (s := zs) (by rw [hc]) z hz
    rcases Int.lt_or_eq_of_le hs.1 with h | h
    · exact h
    · subst h
      have := prodL_zero hz
      rw [← cnt_prod (by rw [hc]), hc] at this
      have : (n : Int) = 0 := this
      omega
  have HPR : Hid (prodL zs = n) := by rw [Hid, ← cnt_prod (by rw [hc]), hc]
  have HSM : Hid (∀ z ∈ zs, z ≤ 2048) := fun z hz => (cnt_small (s := zs) (by rw [hc]) z hz).2
  clear hl h hc hlen hn2
  go_enter Try.func18, Try.ntmps18
  go_wp2_with (first | ((with_reducible refine (C.out _ _ HC.out).mono ?_); rintro e w' ⟨rfl, rfl⟩) | (at_make; refine wpl_make elI rfl _ _ rfl w.heap.size _ _ _ _ len rfl rfl (by rfl) (by rfl) (by omega) (by unfold maxLen; omega) (Nat.le_refl _) ?_; intro w1 hown hgr))
  have HB1 : Hid (Below w.heap.size w w1) := (Below.refl _ _).grown hgr (Nat.le_refl _) (by simp)
  have HA1 : Hid (SlI w1 .i64 (some ⟨w.heap.size, 0, none⟩) len len (digR zs 0).2) := by
    have e : (madeCells (Value.int IntKind.i64 0).cells (len * 1)).toList = (digR zs 0).2.map (Value.int .i64) := by
      rw [Nat.mul_one, (digR_zero zs).1, HL.out]; simp [Value.cells, toList_madeCells_one]
    rw [e] at hown
    exact sl_own hown (by simp [digR_len, HL.out]; omega) (oneI _ _)
  have HLT : Hid (∀ x, (some ⟨w.heap.size, 0, none⟩ : Option Addr) = some x → x.block < w1.heap.size) := fun x hx => by cases hx; exact (hown.lt w.heap.size rfl).2
  clear hown hgr
  go_loopw [5, 6, 7] (fun ov av iv wr => ∃ (k : Nat) (oa : Option Addr) (oc : Nat) (b : Option Addr) (bc : Nat) (vs : List Value) (ds : List Int), k ≤ n ∧ iv = .int .i64 k ∧ ov = .slice oa k oc ∧ av = .slice b len bc ∧
      Hid (wr.ownsRow w.heap.size 22 1 (.slice oa k oc) k vs) ∧ Hid (RowsI wr ((Value.slice oa k oc).ownBlock) len vs (placesP zs k)) ∧ Hid (SlI wr .i64 b len bc ds ∧ Apart b ((Value.slice oa k oc).ownBlock) ∧ ∀ x, b = some x → x.block < wr.heap.size) ∧
      Hid (k < n → ds = (digR zs k).2) ∧ Hid (Below w.heap.size w wr)) (fun _ _ iv _ => n - (intOf iv).toNat)
  case atStart => exact ⟨0, none, 0, _, len, [], (digR zs 0).2, Nat.zero_le _, rfl, rfl, rfl, World.ownsRow_nil _ _ _ _, ⟨rfl, fun i zs hi => by simp [placesP] at hi⟩, ⟨HA1.out, fun x hx => by simp [Value.ownBlock], HLT.out⟩, fun _ => rfl, HB1⟩
  case round =>
    obtain ⟨k, oa, oc, b, bc, vs, ds, hk, rfl, rfl, rfl, ho, hro, hat, hds, hb⟩ := hrel
    have hsz : w.heap.size ≤ wr.heap.size := hb.out.size
    by_cases hlt : k < n
    · have HD : Hid (ds = (digR zs k).2) := hds.out hlt
      have hd' := HD.out
      have HRG : Hid (∀ d ∈ ds, 0 ≤ d ∧ d ≤ 4096) := by
        rw [Hid, hd']
        exact digR_range zs k (by omega) (HP.out (by omega)) HSM.out (by rw [HPR.out]; omega)
      have HNX : Hid (k + 1 < n → (incR zs ds).2 = (digR zs ((k : Int) + 1)).2) := fun _ => by rw [hd', incR_digR zs k (HP.out (by omega))]
      have HSNOC : Hid (placesP zs (k + 1) = placesP zs k ++ [ds]) := by rw [Hid, placesP, placesP, List.range_succ, List.map_append, hd']; rfl
      have hbo := hat.out.1
      have HOA : Hid ((wr.alloc (.cells #[.slice b len bc] 22)).ownsRow w.heap.size 22 1 (.slice oa k oc) k vs) := ho.out.alloc _
      have HBA : Hid (Below w.heap.size w (wr.alloc (.cells #[.slice b len bc] 22))) := hb.out.alloc hsz _
      have HRA : Hid (RowsI (wr.alloc (.cells #[.slice b len bc] 22)) ((Value.slice oa k oc).ownBlock) len vs (placesP zs k)) := hro.out.below ((Below.refl wr.heap.size wr).alloc (Nat.le_refl _) _) (Nat.le_refl _)
      have HTA : Hid (SlI (wr.alloc (.cells #[.slice b len bc] 22)) .i64 b len bc ds ∧ ∀ x, b = some x → x.block < (wr.alloc (.cells #[.slice b len bc] 22)).heap.size) := ⟨hbo.alloc _, fun x hx => by have := hat.out.2.2 x hx; simp; omega⟩
      have HAP : Hid (Apart b ((Value.slice oa k oc).ownBlock)) := hat.out.2.1
      clear hd' hbo hds hro hb ho hat HD
      go_wp2_with (first
        | (at_builtin
           refine wpl_append2 elII rfl (.tmp 23) (.tmp 25) rfl w.heap.size oa k oc vs rfl HOA.out _ 1 1 [.slice b len bc] rfl (sl_one _ _ _ rfl) (by unfold maxLen; omega) (by omega) (by simp; omega) ?_
           intro oa2 oc2 w2 hown2 hgr2 hwh
           have HO2 := Lib.hid hown2
           have hrow : (Value.slice oa2 (k + 1) oc2).ownBlock = (Value.slice oa k oc).ownBlock ∨ ∀ j, (Value.slice oa2 (k + 1) oc2).ownBlock = some j → (wr.alloc (.cells #[.slice b len bc] 22)).heap.size ≤ j := by
             rcases hwh with rfl | hwh
             · left; cases oa2 <;> rfl
             · right; intro j hj; cases oa2 with
               | none => cases hj
               | some x => simp only [Value.ownBlock, Option.some.injEq] at hj; rw [← hj]; exact hwh x rfl
           have HB2 : Hid (Below w.heap.size w w2) := HBA.out.grown hgr2 (by simp; omega) (own_ge HOA.out)
           have HT2 : Hid (SlI w2 .i64 b len bc ds ∧ (∀ x, b = some x → x.block < w2.heap.size) ∧ Apart b ((Value.slice oa2 (k + 1) oc2).ownBlock)) := ⟨Sl.grown HTA.out.1 hgr2 HAP.out, fun x hx => Nat.lt_of_lt_of_le (HTA.out.2 x hx) hgr2.size, apart_of HAP.out HTA.out.2 hrow⟩
           have HR2 : Hid (RowsI w2 ((Value.slice oa2 (k + 1) oc2).ownBlock) len (vs ++ [.slice b len bc]) (placesP zs (k + 1))) := by
             rw [HSNOC.out]; exact (HRA.out.grown hgr2 hrow).snoc HT2.out.1 HT2.out.2.2 HT2.out.2.1
           have hsz2 : w.heap.size ≤ w2.heap.size := HB2.out.size
           clear hown2 hgr2 hwh hrow)
        | (go_at_call 45
           refine (next_c a len cap zs b bc ds _ HL.out (H.out.below HB2.out (Nat.le_refl _)) HT2.out.1 (by omega) HRG.out).mono ?_
           rintro e w3 ⟨a3, c3, rfl, hnew⟩
           have HB3 : Hid (Below w2.heap.size w2 w3) := hnew.2
           have HNEW := Lib.hid hnew
           clear hnew))
      have hlen3 : (incR zs ds).2.length = len := by rw [incR_len]; exact HT2.out.1.len
      have HO3 : Hid (w3.ownsRow w.heap.size 22 1 (.slice oa2 (k + 1) oc2) (k + 1) (vs ++ [.slice b len bc])) := ownsRow_below HO2.out HB3.out (Nat.le_refl _)
      have HA3 : Hid (SlI w3 .i64 a3 len c3 (incR zs ds).2 ∧ Apart a3 ((Value.slice oa2 (k + 1) oc2).ownBlock) ∧ ∀ x, a3 = some x → x.block < w3.heap.size) := by
        have h1 := HNEW.out.1
        rw [hlen3] at h1
        refine ⟨sl_own h1 (by simp [hlen3]; omega) (oneI _ _), fun x hx e => ?_, fun x hx => (own_block h1 x hx).2.1⟩
        have h2 := (own_block h1 x hx).1
        have h3 := (HO2.out.lt x.block e.symm).2
        omega
      have HB4 : Hid (Below w.heap.size w w3) := HB2.out.trans (HB3.out.mono hsz2)
      have HR3 : Hid (RowsI w3 ((Value.slice oa2 (k + 1) oc2).ownBlock) len (vs ++ [.slice b len bc]) (placesP zs (k + 1))) := HR2.out.below HB3.out (Nat.le_refl _)
      clear hlen3
      go_wp2
      go_roundw
      case rel => exact ⟨k + 1, oa2, oc2, a3, c3, _, (incR zs ds).2, by omega, by go_num, rfl, rfl, HO3, HR3, HA3, fun h => by rw [HNX.out h]; rfl, HB4⟩
      case measure => simp [intOf]; omega
    · obtain rfl : k = n := by omega
      go_wp2
      go_ret
      exact ⟨oa, oc, vs, rfl, ho.out, hro.out, hb.out⟩

end Go.Proofs.Ytdnoidocmcpeaaa
