/- The reference's whole numbers: what they answer. -/
import Derived.Test.YtfnbhkeilcbmjaaNatQ
import Derived.Test.YtfnbhkeilcbmjaaAbs7
import Derived.Test.YtfnbhkeilcbmjaaCodeB
namespace Go.Proofs.Ytfnbhkeilcbmjaa
set_option linter.unusedVariables false
open Go.RowKit

theorem rNorm_a (xs : List Int) (hb : xs.length ≤ maxB) : ACalls Try.prog 97 [.sl 1 (intsA .u32 xs)] (.sl 1 (intsA .u32 (trimI xs))) := by
  have hB : maxB = 1000000000 := rfl
  have lx := intsA_len .u32 xs
  refine acalls_of code_scrimref02_Norm (by simp [fn_scrimref02_Norm]) fun C hC => ?_
  refine walk2 ?_
  refine aw_loopB [0, 2] [] (fun k : Nat => [(3, .lit (.int .i64 k))]) (fun _ => []) 0 (fun k => k ≤ xs.length ∧ trimLen xs xs.length = trimLen xs k) (fun k => k) xs.length ⟨Nat.le_refl _, rfl⟩ ?_ (ht := by rw [← lx]; rfl)
  rintro k ⟨hk, hE⟩
  dsimp only [List.cons_append, List.nil_append]
  have fin' : trimLen xs xs.length = k → intsA .u32 (trimI xs) = ((intsA .u32 xs).drop 0).take (k - 0) := fun he => by
    rw [trimI, he, List.drop_zero, Nat.sub_zero, intsA, intsA, List.map_take]
  cases k with
  | zero =>
    refine walk2 ?_
    refine aw_reg (rrun2 ?_)
    refine r_slice 0 0 ?_ ?_ ?_
    · omega
    · omega
    refine r_appendN ?_ ?_
    · simp
    refine rrun2 ?_
    refine rg_nil ⟨rfl, ?_⟩
    refine walk2 ?_
    rw [fin' hE]
    exact fin
  | succ k =>
    obtain ⟨x, hx'⟩ : ∃ x, xs[k]? = some x := ⟨_, List.getElem?_eq_getElem (by omega)⟩
    have hxk : (intsA .u32 xs)[(((k + 1 : Nat) : Int) - 1).toNat]? = some [.lit (.int .u32 x)] := by
      rw [show (((k + 1 : Nat) : Int) - 1).toNat = k from by omega]; exact int_at hx'
    by_cases h0 : x = 0
    · rw [trimLen, if_pos (by rw [hx', h0])] at hE
      refine walk2 ?_
      exact ⟨k, by omega, ⟨by omega, hE⟩, wkR hC.m [] (by rw [show ((k : Nat) : Int) = ((k + 1 : Nat) : Int) - 1 from by omega]; rfl)⟩
    · rw [trimLen, if_neg (by rw [hx']; simpa using h0)] at hE
      refine walk2 ?_
      refine aw_reg (rrun2 ?_)
      refine r_slice 0 (k + 1) ?_ ?_ ?_
      · omega
      · omega
      refine r_appendN ?_ ?_
      · simp only [List.length_take, List.length_drop, intsA, List.length_map]; omega
      refine rrun2 ?_
      refine rg_nil ⟨rfl, ?_⟩
      refine walk2 ?_
      rw [fin' hE]
      exact fin

theorem rlimb_a (xs : List Int) (i : Nat) (q : Int) (hq : q = i) (ho : limOK xs) : ACalls Try.prog 99 [.sl 1 (intsA .u32 xs), .lit (.int .i64 q)] (.lit (.int .u64 (limb xs i))) := by
  have lx := intsA_len .u32 xs
  subst hq
  refine acalls_of code_scrimref02_limb (by simp [fn_scrimref02_limb]) fun C hC => ?_
  by_cases h : i < xs.length
  · obtain ⟨z, hz⟩ : ∃ z, xs[i]? = some z := ⟨_, List.getElem?_eq_getElem h⟩
    have hzk := int_at (k := .u32) hz
    have hr := ho z (List.mem_of_getElem? hz)
    rw [limb_at hz]
    refine walk2 ?_
    exact fin
  · rw [limb_out (by omega)]
    refine walk2 ?_
    exact fin

theorem rlonger_a (xs ys : List Int) (q : Int) (hq : q = (max xs.length ys.length : Nat)) : ACalls Try.prog 98 [.sl 1 (intsA .u32 xs), .sl 1 (intsA .u32 ys)] (.lit (.int .i64 q)) := by
  have lx := intsA_len .u32 xs
  have ly := intsA_len .u32 ys
  subst hq
  refine acalls_of code_scrimref02_longer (by simp [fn_scrimref02_longer]) fun C hC => ?_
  by_cases h : xs.length > ys.length
  · rw [show max xs.length ys.length = xs.length from by omega]
    refine walk2 ?_
    exact fin
  · rw [show max xs.length ys.length = ys.length from by omega]
    refine walk2 ?_
    exact fin

theorem rCmp_a (xs ys : List Int) (hx : limOK xs) (hy : limOK ys) (lx : xs.length ≤ maxB) (ly : ys.length ≤ maxB) : ACalls Try.prog 103 [.sl 1 (intsA .u32 xs), .sl 1 (intsA .u32 ys)] (.lit (.int .i64 (cmpI (valL xs) (valL ys)))) := by
  have hB : maxB = 1000000000 := rfl
  have c1 := rlonger_a xs ys _ rfl
  refine acalls_of code_scrimref02_Cmp (by simp [fn_scrimref02_Cmp]) fun C hC => ?_
  refine walk2 ?_
  refine aw_loopB [0, 1, 4] [] (fun n : Nat => [(5, .lit (.int .i64 ((n : Int) - 1)))]) (fun _ => []) 0 (fun n => n ≤ max xs.length ys.length ∧ valL (xs.drop n) = valL (ys.drop n)) (fun n => n) (max xs.length ys.length)
    ⟨Nat.le_refl _, by rw [List.drop_eq_nil_of_le (by omega), List.drop_eq_nil_of_le (by omega)]⟩ ?_
  rintro n ⟨hn, hE⟩
  dsimp only [List.cons_append, List.nil_append]
  cases n with
  | zero =>
    simp only [List.drop_zero] at hE
    rw [show cmpI (valL xs) (valL ys) = 0 from by rw [hE]; simp [cmpI]]
    refine walk2 ?_
    exact fin
  | succ k =>
    have h1 := limb_range hx k
    have h2 := limb_range hy k
    have c2 := rlimb_a xs k (((k + 1 : Nat) : Int) - 1) (by omega) hx
    have c3 := rlimb_a ys k (((k + 1 : Nat) : Int) - 1) (by omega) hy
    have d1 := valL_drop xs k
    have d2 := valL_drop ys k
    by_cases l1 : limb xs k < limb ys k
    · have := valL_lt_of_drop hx hy k (by omega)
      rw [show cmpI (valL xs) (valL ys) = -1 from by simp [cmpI, this]]
      refine walk2 ?_
      exact fin
    · by_cases l2 : limb xs k > limb ys k
      · have := valL_lt_of_drop hy hx k (by omega)
        rw [show cmpI (valL xs) (valL ys) = 1 from by rw [cmpI, if_neg (by omega), if_pos this]]
        refine walk2 ?_
        exact fin
      · refine walk2 ?_
        exact ⟨k, by omega, ⟨by omega, by omega⟩, wkR hC.m [] (by rw [show ((k : Nat) : Int) = ((k + 1 : Nat) : Int) - 1 from by omega]; rfl)⟩

theorem rtwice_a (xs : List Int) (c : Int) (hx : limOK xs) (lx : xs.length ≤ 100000) (h0 : 0 ≤ c) (h1 : c ≤ 1) : ACalls Try.prog 100 [.sl 1 (intsA .u32 xs), .lit (.int .u32 c)] (.sl 1 (intsA .u32 (limbs (2 * valL xs + c.toNat)))) := by
  have hB : maxB = 1000000000 := rfl
  have lxs := intsA_len .u32 xs
  obtain ⟨v1, v2⟩ := twiceF_val xs.length xs c hx (Nat.le_refl _) h0 h1
  have hl := twiceF_len (xs.length + 1) xs c
  have c1 := rNorm_a (twiceF (xs.length + 1) xs c) (by omega)
  rw [trimI_limbs v2, show valL (twiceF (xs.length + 1) xs c) = 2 * valL xs + c.toNat from by omega] at c1
  clear v1 v2
  refine acalls_of code_scrimref02_twice (by simp [fn_scrimref02_twice]) fun C hC => ?_
  refine walk2 ?_
  refine aw_nil 5 103 1 rfl ?_
  refine aw_loopB [0, 1, 4] [] (fun p : Nat × List Int × Int => [(5, .own 0), (6, .lit (.int .u64 p.2.2)), (7, .lit (.int .i64 p.1))]) (fun p => [(0, some ⟨true, false, 103, 1, intsA .u32 p.2.1⟩)]) 1
    (fun p => p.1 ≤ xs.length + 1 ∧ p.2.1.length = p.1 ∧ 0 ≤ p.2.2 ∧ p.2.2 ≤ 1 ∧ twiceF (xs.length + 1) xs c = p.2.1 ++ twiceF (xs.length + 1 - p.1) (xs.drop p.1) p.2.2) (fun p => xs.length + 1 - p.1) (0, [], c)
    ⟨Nat.zero_le _, rfl, h0, h1, by simp⟩ ?_
  rintro ⟨k, out, b⟩ ⟨hk, ho, hb0, hb1, hE⟩
  simp only at hk ho hb0 hb1 hE
  dsimp only [List.cons_append, List.nil_append]
  have lo := intsA_len .u32 out
  by_cases hlt : k < xs.length + 1
  · have hr := limb_range hx k
    have c2 := rlimb_a xs k _ rfl hx
    rw [twiceF_step xs (xs.length + 1) k hlt b] at hE
    refine walk2 ?_
    refine ⟨(k + 1, out ++ [(2 * limb xs k + b) % 4294967296], (2 * limb xs k + b) / 4294967296), by simp only; omega, ⟨by simp only; omega, by simp only [List.length_append, List.length_singleton]; omega, by simp only; omega, by simp only; omega, by simp only; rw [hE]; simp⟩, wkR hC.m [(0, 2)] ?_⟩
    simp only [intsA, List.map_append, List.map_cons, List.map_nil]
    rfl
  · have hk' : k = xs.length + 1 := by omega
    rw [hk', Nat.sub_self, twiceF, List.append_nil] at hE
    rw [← hE]
    refine aw_freeze 0 rfl ?_
    refine walk2 ?_
    exact fin

theorem rSub_a (xs ys : List Int) (hx : limOK xs) (hy : limOK ys) (lx : xs.length ≤ 100000) (ly : ys.length ≤ 100000) (h : valL ys ≤ valL xs) : ACalls Try.prog 102 [.sl 1 (intsA .u32 xs), .sl 1 (intsA .u32 ys)] (.tup [.sl 1 (intsA .u32 (limbs (valL xs - valL ys))), .lit (.bool true)]) := by
  have hB : maxB = 1000000000 := rfl
  have c0 := rlonger_a xs ys _ rfl
  have c1 := rCmp_a xs ys hx hy (by omega) (by omega)
  have hc : 0 ≤ cmpI (valL xs) (valL ys) := by unfold cmpI; split <;> (try split) <;> omega
  generalize hM : max xs.length ys.length = M at c0
  obtain ⟨v1, v2⟩ := subF_val M xs ys 0 hx hy (by omega) (by omega) (by omega) (by omega) (by omega)
  have hl := subF_len M xs ys 0
  have c2 := rNorm_a (subF M xs ys 0) (by omega)
  rw [trimI_limbs v2, show valL (subF M xs ys 0) = valL xs - valL ys from by omega] at c2
  clear v1 v2
  refine acalls_of code_scrimref02_Sub (by simp [fn_scrimref02_Sub]) fun C hC => ?_
  refine walk2 ?_
  refine aw_nil 6 103 1 rfl ?_
  refine aw_loopB [0, 1, 4, 5] [] (fun p : Nat × List Int × Int => [(6, .own 0), (7, .lit (.int .u64 p.2.2)), (8, .lit (.int .i64 p.1))]) (fun p => [(0, some ⟨true, false, 103, 1, intsA .u32 p.2.1⟩)]) 1
    (fun p => p.1 ≤ M ∧ p.2.1.length = p.1 ∧ 0 ≤ p.2.2 ∧ p.2.2 ≤ 1 ∧ subF M xs ys 0 = p.2.1 ++ subF (M - p.1) (xs.drop p.1) (ys.drop p.1) p.2.2) (fun p => M - p.1) (0, [], 0)
    ⟨Nat.zero_le _, rfl, by simp only; omega, by simp only; omega, by simp⟩ ?_
  rintro ⟨k, out, b⟩ ⟨hk, ho, hb0, hb1, hE⟩
  simp only at hk ho hb0 hb1 hE
  dsimp only [List.cons_append, List.nil_append]
  have lo := intsA_len .u32 out
  by_cases hlt : k < M
  · have hr := limb_range hx k
    have hr2 := limb_range hy k
    have c3 := rlimb_a xs k _ rfl hx
    have c4 := rlimb_a ys k _ rfl hy
    rw [subF_step xs ys M k hlt b] at hE
    refine walk2 ?_
    refine ⟨(k + 1, out ++ [(4294967296 + limb xs k - limb ys k - b) % 4294967296], 1 - (4294967296 + limb xs k - limb ys k - b) / 4294967296), by simp only; omega, ⟨by simp only; omega, by simp only [List.length_append, List.length_singleton]; omega, by simp only; omega, by simp only; omega, by simp only; rw [hE]; simp⟩, wkR hC.m [(0, 2)] ?_⟩
    simp only [intsA, List.map_append, List.map_cons, List.map_nil]
    rfl
  · have hk' : k = M := by omega
    rw [hk', Nat.sub_self, subF, List.append_nil] at hE
    rw [← hE]
    refine aw_freeze 0 rfl ?_
    refine walk2 ?_
    exact fin

theorem rSubN_a (xs ys : List Int) (hx : limOK xs) (hy : limOK ys) (lx : xs.length ≤ 100000) (ly : ys.length ≤ 100000) (h : valL xs < valL ys) : ACalls Try.prog 102 [.sl 1 (intsA .u32 xs), .sl 1 (intsA .u32 ys)] (.tup [.sl 1 [], .lit (.bool false)]) := by
  have hB : maxB = 1000000000 := rfl
  have c1 := rCmp_a xs ys hx hy (by omega) (by omega)
  rw [show cmpI (valL xs) (valL ys) = -1 from by simp [cmpI, h]] at c1
  refine acalls_of code_scrimref02_Sub (by simp [fn_scrimref02_Sub]) fun C hC => ?_
  refine walk2 ?_
  exact fin

theorem rAdd_a (xs ys : List Int) (hx : limOK xs) (hy : limOK ys) (lx : xs.length ≤ 100000) (ly : ys.length ≤ 100000) : ACalls Try.prog 94 [.sl 1 (intsA .u32 xs), .sl 1 (intsA .u32 ys)] (.sl 1 (intsA .u32 (limbs (valL xs + valL ys)))) := by
  have hB : maxB = 1000000000 := rfl
  have c0 := rlonger_a xs ys _ rfl
  generalize hM : max xs.length ys.length = M at c0
  obtain ⟨v1, v2⟩ := addF_val M xs ys 0 hx hy (by omega) (by omega) (by omega) (by omega)
  have hl := addF_len (M + 1) xs ys 0
  have c2 := rNorm_a (addF (M + 1) xs ys 0) (by omega)
  rw [trimI_limbs v2, show valL (addF (M + 1) xs ys 0) = valL xs + valL ys from by omega] at c2
  clear v1 v2
  refine acalls_of code_scrimref02_Add (by simp [fn_scrimref02_Add]) fun C hC => ?_
  refine walk2 ?_
  refine aw_nil 5 103 1 rfl ?_
  refine aw_loopB [0, 1, 4] [] (fun p : Nat × List Int × Int => [(5, .own 0), (6, .lit (.int .u64 p.2.2)), (7, .lit (.int .i64 p.1))]) (fun p => [(0, some ⟨true, false, 103, 1, intsA .u32 p.2.1⟩)]) 1
    (fun p => p.1 ≤ M + 1 ∧ p.2.1.length = p.1 ∧ 0 ≤ p.2.2 ∧ p.2.2 ≤ 1 ∧ addF (M + 1) xs ys 0 = p.2.1 ++ addF (M + 1 - p.1) (xs.drop p.1) (ys.drop p.1) p.2.2) (fun p => M + 1 - p.1) (0, [], 0)
    ⟨Nat.zero_le _, rfl, by simp only; omega, by simp only; omega, by simp⟩ ?_
  rintro ⟨k, out, b⟩ ⟨hk, ho, hb0, hb1, hE⟩
  simp only at hk ho hb0 hb1 hE
  dsimp only [List.cons_append, List.nil_append]
  have lo := intsA_len .u32 out
  by_cases hlt : k < M + 1
  · have hr := limb_range hx k
    have hr2 := limb_range hy k
    have c3 := rlimb_a xs k _ rfl hx
    have c4 := rlimb_a ys k _ rfl hy
    rw [addF_step xs ys (M + 1) k hlt b] at hE
    refine walk2 ?_
    refine ⟨(k + 1, out ++ [(limb xs k + limb ys k + b) % 4294967296], (limb xs k + limb ys k + b) / 4294967296), by simp only; omega, ⟨by simp only; omega, by simp only [List.length_append, List.length_singleton]; omega, by simp only; omega, by simp only; omega, by simp only; rw [hE]; simp⟩, wkR hC.m [(0, 2)] ?_⟩
    simp only [intsA, List.map_append, List.map_cons, List.map_nil]
    rfl
  · have hk' : k = M + 1 := by omega
    rw [hk', Nat.sub_self, addF, List.append_nil] at hE
    rw [← hE]
    refine aw_freeze 0 rfl ?_
    refine walk2 ?_
    exact fin

theorem rBit_a (xs : List Int) (i : Nat) (q : Int) (hq : q = i) (hi : i ≤ 100000000) (ho : limOK xs) : ACalls Try.prog 101 [.sl 1 (intsA .u32 xs), .lit (.int .i64 q)] (.lit (.int .u32 (bitF xs i))) := by
  have c1 := rlimb_a xs (i / 32) (q / 32) (by omega) ho
  have hr := limb_range ho (i / 32)
  refine acalls_of code_scrimref02_Bit (by simp [fn_scrimref02_Bit]) fun C hC => ?_
  refine walk2 ?_
  refine aw_loopB [0, 1, 4] [] (fun k : Nat => [(5, .lit (.int .u64 (limb xs (i / 32) / 2 ^ k))), (6, .lit (.int .i64 k))]) (fun _ => []) 0 (fun k => k ≤ i % 32) (fun k => i % 32 - k) 0 (Nat.zero_le _) ?_ (ht := by simp only [Int.pow_zero, Int.ediv_one]; rfl)
  intro k hk
  dsimp only [List.cons_append, List.nil_append]
  have hx0 : 0 ≤ limb xs (i / 32) / 2 ^ k := Int.ediv_nonneg hr.1 (Int.le_of_lt (Int.pow_pos (by omega)))
  have hx1 : limb xs (i / 32) / 2 ^ k ≤ limb xs (i / 32) := Int.ediv_le_self _ hr.1
  by_cases hlt : k < i % 32
  · have e : limb xs (i / 32) / 2 ^ (k + 1) = limb xs (i / 32) / 2 ^ k / 2 := by
      rw [Int.pow_succ, Int.ediv_ediv_of_nonneg (Int.le_of_lt (Int.pow_pos (by omega)))]
    refine walk2 ?_
    exact ⟨k + 1, by omega, by omega, wkR hC.m [] (by rw [e]; rfl)⟩
  · have hk' : k = i % 32 := by omega
    unfold bitF
    rw [← hk']
    refine walk2 ?_
    exact fin
end Go.Proofs.Ytfnbhkeilcbmjaa
