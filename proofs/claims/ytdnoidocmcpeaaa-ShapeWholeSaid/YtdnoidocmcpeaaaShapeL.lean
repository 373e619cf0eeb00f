/- Walks: layer 7: the next place. -/
import Derived.Test.YtdnoidocmcpeaaaShapeK
namespace Go.Proofs.Ytdnoidocmcpeaaa
set_option linter.unusedVariables false
open Go.RowKit

theorem own_drewN {w : World} {base : Nat} {e : TypeId} {size n : Nat} {v : Value} {xs : List Value} (h : w.ownsRow base e size v n xs) (m : Nat) : (w.drewN m).ownsRow base e size v n xs := h

theorem take_set_mid (ds rest : List Int) (j : Nat) (v : Int) (h : j < ds.length) : (ds.take (j + 1) ++ rest).set j v = ds.take j ++ v :: rest := by
  have e : ds.take (j + 1) = ds.take j ++ [ds[j]] := List.take_succ_eq_append_getElem h
  have hl : (ds.take j).length = j := by simp; omega
  rw [e, List.append_assoc, List.set_append_right _ _ (by omega), hl]
  simp

theorem set_mid (ds rest : List Int) (j : Nat) (u v : Int) (h : j < ds.length) : (ds.take j ++ u :: rest).set j v = ds.take j ++ v :: rest := by
  have hl : (ds.take j).length = j := by simp; omega
  rw [List.set_append_right _ _ (by omega), hl]
  simp

theorem get_mid (ds rest : List Int) (j : Nat) (d : Int) (f : Int → Value) (hd : ds[j]? = some d) : ((ds.take (j + 1) ++ rest).map f)[j]? = some (f d) := by
  have hj := (List.getElem?_eq_some_iff.1 hd).1
  rw [List.getElem?_map, List.getElem?_append_left (by simp; omega), List.getElem?_take, if_pos (by omega), hd]; rfl

set_option maxHeartbeats 2000000 in
theorem next_c (a : Option Addr) (len cap : Nat) (zs : List Int) (a2 : Option Addr) (cap2 : Nat) (ds : List Int) (w : World) (hl : zs.length = len) (h : RdI w .i64 a zs) (hS2 : SlI w .i64 a2 len cap2 ds) (hlen : len ≤ 1000000) (hr : ∀ d ∈ ds, 0 ≤ d ∧ d ≤ 4096) :
    Calls Try.prog 45 #[.slice a len cap, .slice a2 len cap2] w fun e w' => ∃ a' c', e = .returned (.slice a' len c') ∧ NewI w a' c' (incR zs ds).2 w' := by
  have HL := Lib.hid hl
  have HL2 := Lib.hid hS2.len
  have H := Lib.hid h
  have HS := Lib.hid hS2
  have HR := Lib.hid hr
  have HI : Hid ((incR (zs.drop len) (ds.drop len)) = (true, [])) := by rw [Hid, drop_end (by rw [HL.out]; exact Nat.le_refl _), drop_end (by rw [HL2.out]; exact Nat.le_refl _), incR_nil]
  clear hl h hS2 hr
  go_enter Try.func45, Try.ntmps45
  go_wp2_with (at_builtin; refine wpl_append elI rfl (.tmp 7) (.tmp 8) rfl w.heap.size (.slice none 0 0) 0 [] rfl (World.ownsRow_nil _ _ _ _) _ _ _ _ rfl HS.out (by unfold maxLen; omega) (by omega) (Nat.le_refl _) ?_; intro v1 w1 hown1 hgr1)
  have HB1 : Hid (Below w.heap.size w w1) := (Below.refl _ _).grown hgr1 (Nat.le_refl _) (by simp [Value.ownBlock])
  have HO1 := Lib.hid (own_eq hown1 (m := len) (ys := (ds.take len ++ ([] : List Int)).map (Value.int .i64)) (by omega) (by rw [List.take_of_length_le (by rw [HL2.out]; exact Nat.le_refl _)]; simp))
  clear hown1 hgr1
  obtain ⟨b1, c1, rfl⟩ := own_slice HO1.out
  go_loopw [6] (fun iv wr => ∃ (j : Nat) (q : Int) (rest : List Int), j ≤ len ∧ q + 1 = j ∧ iv = .int .i64 q ∧ Hid (incR (zs.drop j) (ds.drop j) = (true, rest)) ∧
      Hid (wr.ownsRow w.heap.size 3 1 (.slice b1 len c1) len ((ds.take j ++ rest).map (Value.int .i64))) ∧ Hid (Below w.heap.size w wr)) (fun iv _ => (intOf iv + 1).toNat)
  case atStart => exact ⟨len, len - 1, [], Nat.le_refl _, by omega, rfl, HI, HO1, HB1⟩
  case round =>
    obtain ⟨j, q, rest, hj, hq, rfl, hin, ho, hb⟩ := hrel
    rcases j with _ | j
    · obtain rfl : q = -1 := by omega
      have HE : Hid (wr.ownsRow w.heap.size 3 1 (.slice b1 len c1) len ((incR zs ds).2.map (Value.int .i64))) := by
        have h1 := hin.out
        rw [List.drop_zero, List.drop_zero] at h1
        rw [Hid, h1]; simpa using ho.out
      clear hq
      go_wp2
      go_ret
      exact ⟨b1, c1, rfl, by rw [incR_len, HL2.out]; exact HE.out, hb.out⟩
    · obtain rfl : q = (j : Int) := by omega
      have hjl : j < len := by omega
      have hjd : j < ds.length := by rw [HL2.out]; exact hjl
      obtain ⟨b, off, z, rfl, hbb, hz, hcell⟩ := H.out.get (i := j) (by rw [HL.out]; exact hjl)
      obtain ⟨d, hd⟩ : ∃ d, ds[j]? = some d := ⟨ds[j], by simp [hjd]⟩
      obtain ⟨hd0, hd1⟩ := HR.out d (List.mem_of_getElem? hd)
      obtain ⟨g, rfl⟩ : ∃ g, b1 = some ⟨g, 0, none⟩ := by
        rcases ho.out.2 with ⟨h1, h2⟩ | ⟨g, c, cur, h1, _⟩
        · omega
        · simp only [Value.slice.injEq] at h1; exact ⟨g, h1.1⟩
      have hg : w.heap.size ≤ g := own_ge ho.out g rfl
      have hgb : g ≠ b := by omega
      have hbg : b ≠ g := by omega
      have hc1 : wr.cell? ⟨b, off + j, none⟩ = some (.int .i64 z) := by rw [hb.out.cell (by exact hbb)]; exact hcell
      have hc2 : wr.cell? ⟨g, j, none⟩ = some (.int .i64 d) := by
        rw [ho.out.cellAt j (by omega)]
        exact get_mid ds rest j d _ hd
      have hf2 : wr.frozen? ⟨g, j, none⟩ = false := ho.out.frozenAt j
      have hst := (ho.out.stored j (.int .i64 (d + 1))).1
      rw [← List.map_set, take_set_mid ds rest j _ hjd] at hst
      have HS1 : Hid ((wr.setCell ⟨g, j, none⟩ (.int .i64 (d + 1))).ownsRow w.heap.size 3 1 (.slice (some ⟨g, 0, none⟩) len c1) len ((ds.take j ++ (d + 1) :: rest).map (Value.int .i64)) ∧ Below w.heap.size w (wr.setCell ⟨g, j, none⟩ (.int .i64 (d + 1)))) := ⟨hst, hb.out.setCell hg _⟩
      have hj0 : (0 : Int) ≤ (j : Int) := by omega
      have hj1 : (j : Int) < (len : Int) := by omega
      by_cases hlt : d + 1 < z
      · have HE : Hid ((incR zs ds).2 = ds.take j ++ (d + 1) :: rest) := by
          have e : incR (zs.drop j) (ds.drop j) = (false, (d + 1) :: rest) := by rw [dropA_cons hz, dropA_cons hd, incR, hin.out]; simp [hlt]
          rw [Hid, incR_stop j zs ds (by rw [HL.out, HL2.out]) (by rw [HL.out]; omega) (by rw [e]), e]
        clear hq hin ho hcell hst hz hd hb
        go_wp2_with fail
        go_quiet (fail)
        go_wp2
        go_ret
        exact ⟨some ⟨g, 0, none⟩, c1, rfl, by rw [incR_len, HL2.out, HE.out]; exact own_drewN HS1.out.1 _, below_drewN HS1.out.2 _⟩
      · have HE : Hid (incR (zs.drop j) (ds.drop j) = (true, 0 :: rest)) := by rw [Hid, dropA_cons hz, dropA_cons hd, incR, hin.out]; simp [hlt]
        have hst2 := (HS1.out.1.stored j (.int .i64 0)).1
        rw [← List.map_set, set_mid ds rest j _ _ hjd] at hst2
        have HS2 : Hid (((wr.setCell ⟨g, j, none⟩ (.int .i64 (d + 1))).setCell ⟨g, j, none⟩ (.int .i64 0)).ownsRow w.heap.size 3 1 (.slice (some ⟨g, 0, none⟩) len c1) len ((ds.take j ++ 0 :: rest).map (Value.int .i64)) ∧ Below w.heap.size w ((wr.setCell ⟨g, j, none⟩ (.int .i64 (d + 1))).setCell ⟨g, j, none⟩ (.int .i64 0))) := ⟨hst2, HS1.out.2.setCell hg _⟩
        clear hq hin ho hcell hst hst2 hz hd hb
        go_wp2_with fail
        go_quiet (fail)
        go_wp2
        go_roundw
        case rel => exact ⟨j, (j : Int) - 1, 0 :: rest, by omega, by omega, rfl, HE, own_drewN HS2.out.1 _, below_drewN HS2.out.2 _⟩
        case measure => simp [intOf]

end Go.Proofs.Ytdnoidocmcpeaaa
