/- Walks: the functions of layer 7 that only read. -/
import Derived.Test.YtdnoidocmcpeaaaShapeP
import Derived.Test.YtdnoidocmcpeaaaProg
import Derived.Deep.QuietTactic
import Derived.BigQuiet
namespace Go.Proofs.Ytdnoidocmcpeaaa
set_option linter.unusedVariables false
open Go.RowKit

set_option maxHeartbeats 400000 in
theorem lt0_c (n : Int) (w : World) :
    Calls Try.prog 41 #[.int .i64 n] w fun e w' => e = .returned (.bool (decide (n < 0))) ∧ w = w' := by
  go_enter Try.func41, Try.ntmps41
  go_wp2
  go_ret
  exact ⟨rfl, rfl⟩

set_option maxHeartbeats 400000 in
theorem gt_c (n : Int) (w : World) :
    Calls Try.prog 42 #[.int .i64 n] w fun e w' => e = .returned (.bool (decide (n > 2048))) ∧ w = w' := by
  go_enter Try.func42, Try.ntmps42
  go_wp2
  go_ret
  exact ⟨rfl, rfl⟩

set_option maxHeartbeats 400000 in
theorem indexFunc_c (g : Nat) (hgs : g = 41 ∨ g = 42) (p : Int → Bool) (hg : Hid (∀ n w, Calls Try.prog g #[.int .i64 n] w fun e w' => e = .returned (.bool (p n)) ∧ w = w'))
  (a : Option Addr) (len cap : Nat) (zs : List Int) (w : World) (hl : zs.length = len) (h : RdI w .i64 a zs) :
    Calls Try.prog 59 #[.slice a len cap, .func (.func g) #[] #[]] w fun e w' => e = .returned (.int .i64 (idxFrom p zs 0)) ∧ w = w' := by
  have hle : len ≤ 140737488351232 := by have := h.le; omega
  have HL := Lib.hid hl; clear hl
  have H := Lib.hid h; clear h
  have E : Hid (idxFrom p zs 0 = idxFrom p (zs.drop 0) (0 : Nat)) := by simp [Hid]
  rcases hgs with rfl | rfl
  all_goals
    go_enter Try.func59, Try.ntmps59
    go_wp2
    go_loop [8] (fun i => ∃ k : Nat, k ≤ len ∧ i = .int .i64 k ∧ Hid (idxFrom p zs 0 = idxFrom p (zs.drop k) k)) (fun i => len - (intOf i).toNat)
    case atStart => exact ⟨0, Nat.zero_le _, rfl, E⟩
    case round =>
      obtain ⟨k, hk, rfl, hE⟩ := hrel
      by_cases hlt : k < len
      · obtain ⟨b, off, z, rfl, hb, hz, hc⟩ := H.out.get (i := k) (by rw [HL.out]; exact hlt)
        have HZ := Lib.hid hz; clear hz
        cases hp : p z
        · have HP := Lib.hid hp; clear hp
          go_wp2_with (refine (hg.out _ _).mono ?_; rintro e w' ⟨rfl, rfl⟩; rw [HP.out])
          go_round
          case rel => exact ⟨k + 1, by omega, by go_num, by rw [Hid, hE.out, drop_cons HZ.out, idxFrom, HP.out]; rfl⟩
          case measure => simp [intOf]; omega
        · have HP := Lib.hid hp; clear hp
          go_wp2_with (refine (hg.out _ _).mono ?_; rintro e w' ⟨rfl, rfl⟩; rw [HP.out])
          go_ret
          exact ⟨by rw [hE.out, drop_cons HZ.out, idxFrom, HP.out]; rfl, rfl⟩
      · go_wp2
        go_ret
        exact ⟨by rw [hE.out, drop_end (by rw [HL.out]; omega)]; rfl, rfl⟩

set_option maxHeartbeats 400000 in
theorem containsFunc_c (g : Nat) (hgs : g = 41 ∨ g = 42) (p : Int → Bool) (hg : Hid (∀ n w, Calls Try.prog g #[.int .i64 n] w fun e w' => e = .returned (.bool (p n)) ∧ w = w'))
  (a : Option Addr) (len cap : Nat) (zs : List Int) (w : World) (hl : zs.length = len) (h : RdI w .i64 a zs) :
    Calls Try.prog 40 #[.slice a len cap, .func (.func g) #[] #[]] w fun e w' => e = .returned (.bool (zs.any p)) ∧ w = w' := by
  have HL := Lib.hid hl; clear hl
  go_enter Try.func40, Try.ntmps40
  go_wp2_with (go_at_call 59; refine (indexFunc_c g hgs p hg a len cap zs _ HL.out h).mono ?_; rintro e w' ⟨rfl, rfl⟩)
  go_ret
  exact ⟨by rw [← idxFrom_ge p zs 0]; rfl, rfl⟩

set_option maxHeartbeats 400000 in
theorem index_c (v : Int) (a : Option Addr) (len cap : Nat) (zs : List Int) (w : World) (hl : zs.length = len) (h : RdI w .i64 a zs) :
    Calls Try.prog 60 #[.slice a len cap, .int .i64 v] w fun e w' => e = .returned (.int .i64 (idxFrom (fun z => v == z) zs 0)) ∧ w = w' := by
  have hle : len ≤ 140737488351232 := by have := h.le; omega
  have HL := Lib.hid hl; clear hl
  have H := Lib.hid h; clear h
  obtain ⟨p, hp⟩ : ∃ p : Int → Bool, p = fun z => v == z := ⟨_, rfl⟩
  rw [← hp]
  have HPP := Lib.hid hp; clear hp
  have E : Hid (idxFrom p zs 0 = idxFrom p (zs.drop 0) (0 : Nat)) := by simp [Hid]
  go_enter Try.func60, Try.ntmps60
  go_wp2
  go_loop [8] (fun i => ∃ k : Nat, k ≤ len ∧ i = .int .i64 k ∧ Hid (idxFrom p zs 0 = idxFrom p (zs.drop k) k)) (fun i => len - (intOf i).toNat)
  case atStart => exact ⟨0, Nat.zero_le _, rfl, E⟩
  case round =>
    obtain ⟨k, hk, rfl, hE⟩ := hrel
    by_cases hlt : k < len
    · obtain ⟨b, off, z, rfl, hb, hz, hc⟩ := H.out.get (i := k) (by rw [HL.out]; exact hlt)
      have HZ := Lib.hid hz; clear hz
      cases hp : (v == z)
      · have HP : Hid (p z = false) := by rw [HPP.out]; exact hp
        go_wp2
        go_round
        case rel => exact ⟨k + 1, by omega, by go_num, by rw [Hid, hE.out, drop_cons HZ.out, idxFrom, HP.out]; rfl⟩
        case measure => simp [intOf]; omega
      · have HP : Hid (p z = true) := by rw [HPP.out]; exact hp
        go_wp2
        go_ret
        exact ⟨by rw [hE.out, drop_cons HZ.out, idxFrom, HP.out]; rfl, rfl⟩
    · go_wp2
      go_ret
      exact ⟨by rw [hE.out, drop_end (by rw [HL.out]; omega)]; rfl, rfl⟩

set_option maxHeartbeats 400000 in
theorem contains_c (v : Int) (a : Option Addr) (len cap : Nat) (zs : List Int) (w : World) (hl : zs.length = len) (h : RdI w .i64 a zs) :
    Calls Try.prog 43 #[.slice a len cap, .int .i64 v] w fun e w' => e = .returned (.bool (zs.any (fun z => v == z))) ∧ w = w' := by
  have HL := Lib.hid hl; clear hl
  go_enter Try.func43, Try.ntmps43
  go_wp2_with (go_at_call 60; refine (index_c v a len cap zs _ HL.out h).mono ?_; rintro e w' ⟨rfl, rfl⟩)
  go_ret
  exact ⟨by rw [← idxFrom_ge _ zs 0]; rfl, rfl⟩

set_option maxHeartbeats 400000 in
theorem product_c (a : Option Addr) (len cap : Nat) (zs : List Int) (w : World) (hl : zs.length = len) (h : RdI w .i64 a zs) (hs : Small zs) :
    Calls Try.prog 44 #[.slice a len cap] w fun e w' => e = .returned (.int .i64 (prodC zs 1)) ∧ w = w' := by
  have hle : len ≤ 140737488351232 := by have := h.le; omega
  have HL := Lib.hid hl; clear hl
  have H := Lib.hid h; clear h
  have HS := Lib.hid hs; clear hs
  have E : Hid (prodC zs 1 = prodC (zs.drop 0) 1) := by simp [Hid]
  go_enter Try.func44, Try.ntmps44
  go_wp2
  go_loop [3, 8] (fun o i => ∃ (k : Nat) (p : Int), k ≤ len ∧ i = .int .i64 k ∧ o = .int .i64 p ∧ 0 ≤ p ∧ p ≤ 2048 ∧ Hid (prodC zs 1 = prodC (zs.drop k) p)) (fun _ i => len - (intOf i).toNat)
  case atStart => exact ⟨0, 1, Nat.zero_le _, rfl, rfl, by omega, by omega, E⟩
  case round =>
    obtain ⟨k, p, hk, rfl, rfl, hp0, hp1, hE⟩ := hrel
    by_cases hlt : k < len
    · obtain ⟨b, off, z, rfl, hb, hz, hc⟩ := H.out.get (i := k) (by rw [HL.out]; exact hlt)
      have hzz := HS.out z (List.mem_of_getElem? hz)
      obtain ⟨hz0, hz1⟩ := hzz
      have HZ := Lib.hid hz; clear hz
      have hm0 : 0 ≤ p * z := Int.mul_nonneg hp0 hz0
      have hm1 : p * z ≤ 2048 * 2048 := Int.mul_le_mul hp1 hz1 hz0 (by omega)
      by_cases hbig : p * z > 2048
      · go_wp2
        go_ret
        exact ⟨by rw [hE.out, drop_cons HZ.out, prodC, if_pos hbig]; rfl, rfl⟩
      · go_wp2
        go_round
        case rel => exact ⟨k + 1, p * z, by omega, by go_num, rfl, hm0, by omega, by rw [Hid, hE.out, drop_cons HZ.out, prodC, if_neg hbig]⟩
        case measure => simp [intOf]; omega
    · go_wp2
      go_ret
      exact ⟨by rw [hE.out, drop_end (by rw [HL.out]; omega)]; rfl, rfl⟩


/-- the tests of Count, each decided -/
inductive CntWay (s : List Int) : Prop
  | rank (h : s.length > 6)
  | neg (h : s.length ≤ 6) (h1 : s.any (fun n => decide (n < 0)) = true)
  | big (h : s.length ≤ 6) (h1 : s.any (fun n => decide (n < 0)) = false) (h2 : s.any (fun n => decide (n > 2048)) = true)
  | zero (h : s.length ≤ 6) (h1 : s.any (fun n => decide (n < 0)) = false) (h2 : s.any (fun n => decide (n > 2048)) = false) (h3 : s.any (fun z => (0 : Int) == z) = true)
  | over (h : s.length ≤ 6) (h1 : s.any (fun n => decide (n < 0)) = false) (h2 : s.any (fun n => decide (n > 2048)) = false) (h3 : s.any (fun z => (0 : Int) == z) = false) (h4 : prodC s 1 = 0)
  | fine (h : s.length ≤ 6) (h1 : s.any (fun n => decide (n < 0)) = false) (h2 : s.any (fun n => decide (n > 2048)) = false) (h3 : s.any (fun z => (0 : Int) == z) = false) (h4 : prodC s 1 ≠ 0)

theorem cntWay (s : List Int) : CntWay s := by
  by_cases h : s.length > 6
  · exact .rank h
  · cases h1 : s.any (fun n => decide (n < 0))
    · cases h2 : s.any (fun n => decide (n > 2048))
      · cases h3 : s.any (fun z => (0 : Int) == z)
        · by_cases h4 : prodC s 1 = 0
          · exact .over (by omega) h1 h2 h3 h4
          · exact .fine (by omega) h1 h2 h3 h4
        · exact .zero (by omega) h1 h2 h3
      · exact .big (by omega) h1 h2
    · exact .neg (by omega) h1

set_option maxHeartbeats 1000000 in
theorem count_c (a : Option Addr) (len cap : Nat) (zs : List Int) (w : World) (hl : zs.length = len) (h : RdI w .i64 a zs) :
    Calls Try.prog 12 #[.slice a len cap] w fun e w' => e = .returned (.tuple #[.int .i64 (cnt zs).1, .int .i64 (cnt zs).2]) ∧ w = w' := by
  have hle : len ≤ 140737488351232 := by have := h.le; omega
  have hg1 := Lib.hid (fun n w => lt0_c n w)
  have hg2 := Lib.hid (fun n w => gt_c n w)
  have C1 : Hid (∀ x, zs.any (fun n => decide (n < 0)) = x → Calls Try.prog 40 #[.slice a len cap, .func (.func 41) #[] #[]] w fun e w' => e = .returned (.bool x) ∧ w = w') := fun x hx => hx ▸ containsFunc_c _ (.inl rfl) _ hg1 a len cap zs w hl h
  have C2 : Hid (∀ x, zs.any (fun n => decide (n > 2048)) = x → Calls Try.prog 40 #[.slice a len cap, .func (.func 42) #[] #[]] w fun e w' => e = .returned (.bool x) ∧ w = w') := fun x hx => hx ▸ containsFunc_c _ (.inr rfl) _ hg2 a len cap zs w hl h
  have C3 : Hid (∀ x, zs.any (fun z => (0 : Int) == z) = x → Calls Try.prog 43 #[.slice a len cap, .int .i64 0] w fun e w' => e = .returned (.bool x) ∧ w = w') := fun x hx => hx ▸ contains_c 0 a len cap zs w hl h
  have C4 : Hid (∀ x, Small zs → prodC zs 1 = x → Calls Try.prog 44 #[.slice a len cap] w fun e w' => e = .returned (.int .i64 x) ∧ w = w') := fun x hs hx => hx ▸ product_c a len cap zs w hl h hs
  clear hg1 hg2 h
  rcases cntWay zs with hw | ⟨hw, h1⟩ | ⟨hw, h1, h2⟩ | ⟨hw, h1, h2, h3⟩ | ⟨hw, h1, h2, h3, h4⟩ | ⟨hw, h1, h2, h3, h4⟩
  · have E : Hid (cnt zs = (0, 7)) := by simp [Hid, cnt, hw]
    have hlen : 6 < len := by omega
    clear hl hw
    go_enter Try.func12, Try.ntmps12
    go_wp2
    go_ret2
    exact ⟨by rw [E.out]; rfl, rfl⟩
  · have E : Hid (cnt zs = (0, 3)) := by simp only [Hid, cnt]; rw [if_neg (by omega), if_pos h1]
    have hlen : len ≤ 6 := by omega
    have H1 := Lib.hid h1
    clear hl hw h1
    go_enter Try.func12, Try.ntmps12
    go_wp2_with (refine (C1.out _ H1.out).mono ?_; rintro e w' ⟨rfl, rfl⟩)
    go_ret2
    exact ⟨by rw [E.out]; rfl, rfl⟩
  · have E : Hid (cnt zs = (0, 7)) := by simp only [Hid, cnt]; rw [if_neg (by omega), if_neg (by rw [h1]; simp), if_pos h2]
    have hlen : len ≤ 6 := by omega
    have H1 := Lib.hid h1
    have H2 := Lib.hid h2
    clear hl hw h1 h2
    go_enter Try.func12, Try.ntmps12
    go_wp2_with (first | ((with_reducible refine (C1.out _ H1.out).mono ?_); rintro e w' ⟨rfl, rfl⟩) | ((with_reducible refine (C2.out _ H2.out).mono ?_); rintro e w' ⟨rfl, rfl⟩))
    go_ret2
    exact ⟨by rw [E.out]; rfl, rfl⟩
  · have E : Hid (cnt zs = (0, 0)) := by simp only [Hid, cnt]; rw [if_neg (by omega), if_neg (by rw [h1]; simp), if_neg (by rw [h2]; simp), if_pos h3]
    have hlen : len ≤ 6 := by omega
    have H1 := Lib.hid h1
    have H2 := Lib.hid h2
    have H3 := Lib.hid h3
    clear hl hw h1 h2 h3
    go_enter Try.func12, Try.ntmps12
    go_wp2_with (first | ((with_reducible refine (C1.out _ H1.out).mono ?_); rintro e w' ⟨rfl, rfl⟩) | ((with_reducible refine (C2.out _ H2.out).mono ?_); rintro e w' ⟨rfl, rfl⟩) | ((with_reducible refine (C3.out _ H3.out).mono ?_); rintro e w' ⟨rfl, rfl⟩))
    go_ret2
    exact ⟨by rw [E.out]; rfl, rfl⟩
  · have E : Hid (cnt zs = (0, 7)) := by simp only [Hid, cnt]; rw [if_neg (by omega), if_neg (by rw [h1]; simp), if_neg (by rw [h2]; simp), if_neg (by rw [h3]; simp), if_pos h4]
    have hlen : len ≤ 6 := by omega
    have HS := Lib.hid (small_of h1 h2)
    have H1 := Lib.hid h1
    have H2 := Lib.hid h2
    have H3 := Lib.hid h3
    have H4 := Lib.hid h4
    clear hl hw h1 h2 h3 h4
    go_enter Try.func12, Try.ntmps12
    go_wp2_with (first | ((with_reducible refine (C1.out _ H1.out).mono ?_); rintro e w' ⟨rfl, rfl⟩) | ((with_reducible refine (C2.out _ H2.out).mono ?_); rintro e w' ⟨rfl, rfl⟩) | ((with_reducible refine (C3.out _ H3.out).mono ?_); rintro e w' ⟨rfl, rfl⟩) | ((with_reducible refine (C4.out _ HS.out H4.out).mono ?_); rintro e w' ⟨rfl, rfl⟩))
    go_ret2
    exact ⟨by rw [E.out]; rfl, rfl⟩
  · have E : Hid (cnt zs = (prodC zs 1, 0)) := by simp only [Hid, cnt]; rw [if_neg (by omega), if_neg (by rw [h1]; simp), if_neg (by rw [h2]; simp), if_neg (by rw [h3]; simp), if_neg h4]
    have hlen : len ≤ 6 := by omega
    have HS := Lib.hid (small_of h1 h2)
    obtain ⟨p, hp⟩ : ∃ p, prodC zs 1 = p := ⟨_, rfl⟩
    rw [hp] at h4
    have hpb : (p == 0) = false := by simpa using h4
    have H1 := Lib.hid h1
    have H2 := Lib.hid h2
    have H3 := Lib.hid h3
    have H4 := Lib.hid hp
    clear hl hw h1 h2 h3 h4 hp
    go_enter Try.func12, Try.ntmps12
    go_wp2_with (first | ((with_reducible refine (C1.out _ H1.out).mono ?_); rintro e w' ⟨rfl, rfl⟩) | ((with_reducible refine (C2.out _ H2.out).mono ?_); rintro e w' ⟨rfl, rfl⟩) | ((with_reducible refine (C3.out _ H3.out).mono ?_); rintro e w' ⟨rfl, rfl⟩) | ((with_reducible refine (C4.out _ HS.out H4.out).mono ?_); rintro e w' ⟨rfl, rfl⟩))
    go_ret2
    exact ⟨by rw [E.out, H4.out]; rfl, rfl⟩

end Go.Proofs.Ytdnoidocmcpeaaa
