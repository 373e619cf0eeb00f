/- The laws TurnRotates and TurnBack. -/
import Derived.Test.YtfnilbkahkbljaaTurnR
import Derived.Test.YtfnilbkahkbljaaJoinR
namespace Go.Proofs.Ytfnilbkahkbljaa
set_option linter.unusedVariables false
open Go.RowKit

theorem refReverse_a (A : Arr) (first : Bool) (hA : okJ A) : ACalls Try.prog 47 [.agg (arrV A), .lit (.bool first)] (.agg (arrV (revA A first))) := by
  have hl := hA.len
  have ls := intsA_len .i64 A.shape
  unfold revA
  by_cases h : A.shape = []
  · rw [if_pos h]
    refine acalls_of code_scrimref14_Reverse (by simp [fn_scrimref14_Reverse]) fun C hC => ?_
    have hz : (A.shape.length : Int) = 0 := by rw [h]; rfl
    refine walk2 ?_
    exact fin
  · rw [if_neg h]
    have h0 : A.shape.length ≠ 0 := fun e => h (List.eq_nil_of_length_eq_zero e)
    have c1 := axis14_a A first hl h0
    have c2 := rotated_a A first hA h 0 true
    refine acalls_of code_scrimref14_Reverse (by simp [fn_scrimref14_Reverse]) fun C hC => ?_
    refine walk2 ?_
    exact fin

set_option maxHeartbeats 1000000 in
theorem refRotate_a (K A : Arr) (first : Bool) (hK : arrOK K) (kK : okJ K) (hA : okJ A) : ACalls Try.prog 43 [.agg (arrV K), .agg (arrV A), .lit (.bool first)] (.tup [.agg (arrV (rotP K A first).1), .lit (.int .i64 (rotP K A first).2)]) := by
  have hl := hA.len
  have ls := intsA_len .i64 A.shape
  have c0 := refInts_a K hK kK.ok
  have lK := intsA_len .i64 (intsR K).1
  by_cases h0 : (intsR K).2 = 0
  · rcases listK1 (intsR K).1 with ⟨z, hz⟩ | hne
    · rw [rotP_ok h0 hz]
      have hzk : (intsA .i64 (intsR K).1)[(0 : Int).toNat]? = some [.lit (.int .i64 z)] := by rw [hz]; rfl
      have hzl : (((intsR K).1.length : Nat) : Int) = 1 := by rw [hz]; rfl
      rw [h0] at c0
      have htl := totA_lt K kK.ok
      have c1 := rtotal_a K kK.ok
      have c2 := rjoin_a A.s (totA K) hA.ok.parts.1 htl
      generalize totA K = T at *
      generalize (intsR K).1 = l at *
      unfold rotC
      by_cases h : A.shape = []
      · rw [if_pos h]
        have hz : (A.shape.length : Int) = 0 := by rw [h]; rfl
        refine acalls_of code_scrimref14_Rotate (by simp [fn_scrimref14_Rotate]) fun C hC => ?_
        refine walk2 ?_
        exact fin
      · rw [if_neg h]
        have hs0 : A.shape.length ≠ 0 := fun e => h (List.eq_nil_of_length_eq_zero e)
        have c3 := axis14_a A first hl hs0
        have c4 := rotated_a A first hA h z false
        have e : (fun i => rotI (lenT A first) (behT A first) (srcT (lenT A first) (behT A first) z false i) i) = (fun i => rotI (lenT A first) (behT A first) ((jOf (lenT A first) (behT A first) i + (z % (lenT A first : Nat)).toNat) % lenT A first) i) := by funext i; simp [srcT]
        rw [e] at c4
        generalize permL A.cells (fun i => rotI (lenT A first) (behT A first) ((jOf (lenT A first) (behT A first) i + (z % (lenT A first : Nat)).toNat) % lenT A first) i) = R at c4 ⊢
        clear e
        refine acalls_of code_scrimref14_Rotate (by simp [fn_scrimref14_Rotate]) fun C hC => ?_
        refine walk2 ?_
        exact fin
    · rw [rotP_len h0 hne]
      rw [h0] at c0
      have hzl : ¬ (((intsR K).1.length : Nat) : Int) = 1 := by omega
      generalize (intsR K).1 = l at *
      refine acalls_of code_scrimref14_Rotate (by simp [fn_scrimref14_Rotate]) fun C hC => ?_
      refine walk2 ?_
      exact fin
  · unfold rotP
    rw [if_pos h0]
    generalize (intsR K).1 = l at *
    generalize (intsR K).2 = e at *
    refine acalls_of code_scrimref14_Rotate (by simp [fn_scrimref14_Rotate]) fun C hC => ?_
    refine walk2 ?_
    exact fin

theorem light14_a (A : Arr) (hA : arrOK A) : ACalls Try.prog 40 [.agg (arrV A)] (.lit (.bool (goodA A && decide (A.cells.length ≤ 100)))) := by
  have lcs := cells_len A
  have c1 := good_a A hA
  refine acalls_of code_scrimlaw14_light (by simp [fn_scrimlaw14_light]) fun C hC => ?_
  cases h : goodA A
  · rw [h] at c1
    rw [Bool.false_and]
    refine walk2 ?_
    exact fin
  · rw [h] at c1
    rw [Bool.true_and]
    by_cases hc : A.cells.length ≤ 100
    · rw [decide_eq_true hc]
      refine walk2 ?_
      exact fin
    · rw [decide_eq_false hc]
      refine walk2 ?_
      exact fin

theorem light14_at (A : Arr) (hA : arrOK A) {b : Bool} (h : (goodA A && decide (A.cells.length ≤ 100)) = b) : ACalls Try.prog 40 [.agg (arrV A)] (.lit (.bool b)) := h ▸ light14_a A hA
theorem light_good {A : Arr} (h : (goodA A && decide (A.cells.length ≤ 100)) = true) : goodA A = true := by rw [Bool.and_eq_true] at h; exact h.1

/-- an array of another one's cells, and its shape -/
theorem rot_mem {A : Arr} (hA : okJ A) (first : Bool) (z : Int) : (rotC A first z).length = A.cells.length ∧ ∀ c ∈ rotC A first z, c ∈ A.cells := by
  unfold rotC
  split
  · exact ⟨rfl, fun c hc => hc⟩
  · rename_i h
    refine ⟨permL_len _ _, permL_mem fun i hi => ?_⟩
    have K := ax_at hA first h (by omega)
    exact (K.idx hA hi (Nat.mod_lt _ K.L_pos)).2

theorem rev_mem {A : Arr} (hA : okJ A) (first : Bool) : (revA A first).s = A.s ∧ (revA A first).shape = A.shape ∧ (revA A first).cells.length = A.cells.length ∧ ∀ c ∈ (revA A first).cells, c ∈ A.cells := by
  unfold revA
  split
  · exact ⟨rfl, rfl, rfl, fun c hc => hc⟩
  · rename_i h
    refine ⟨rfl, rfl, permL_len _ _, permL_mem fun i hi => ?_⟩
    have K := ax_at hA first h (by omega)
    have hj := jOf_lt (B := behT A first) K.L_pos i
    have := K.L_pos
    exact (K.idx hA hi (by omega)).2

theorem okJ_same {A R : Arr} (hA : okJ A) (hs : R.s < 18446744073709551616) (hsh : R.shape = A.shape) (hl : R.cells.length = A.cells.length) (hm : ∀ c ∈ R.cells, c ∈ A.cells) : okJ R := by
  obtain ⟨s, sh, cs⟩ := R
  obtain ⟨a1, a2, a3, a4⟩ := hA.ok.parts
  have hc := hA.c
  have he := hA.e
  simp only [Arr.s, Arr.cells] at hs hl hm
  have hsh : sh = A.shape := hsh
  rw [← hsh] at hc he a2
  refine ⟨?_, he, by show (cnt sh).1 = (cs.length : Int); rw [hl]; exact hc⟩
  simp only [okA]
  exact ⟨hs, a2, by rw [hl]; exact a3, okCs_of fun c hc => okCs_mem.1 a4 c (hm c hc)⟩

theorem arrOK_same {A R : Arr} (hA : arrOK A) (hs : R.s < 18446744073709551616) (hsh : R.shape = A.shape) (hl : R.cells.length = A.cells.length) (hm : ∀ c ∈ R.cells, c ∈ A.cells) : arrOK R := by
  obtain ⟨s, sh, cs⟩ := R
  obtain ⟨s2, sh2, cs2⟩ := A
  simp only [Arr.s, Arr.shape, Arr.cells] at *
  subst hsh
  simp only [arrOK] at hA ⊢
  exact ⟨hs, hA.2.1, hA.2.2.1, by rw [hl]; exact hA.2.2.2.1, cellsOK_mem.2 fun c hc => cellsOK_mem.1 hA.2.2.2.2 c (hm c hc)⟩

theorem right_same {A R : Arr} {d : Nat} (hA : rightA d A = true) (hsh : R.shape = A.shape) (hl : R.cells.length = A.cells.length) (hm : ∀ c ∈ R.cells, c ∈ A.cells) : rightA d R = true := by
  obtain ⟨r1, r2, r3⟩ := right_shape hA
  rw [rightA_eq, rcnt_eq, hsh, r1, r2, hl]
  simp only [beq_self_eq_true, Bool.true_and]
  exact rightCs_mem.2 fun c hc => rightCs_mem.1 r3 c (hm c hc)

theorem rotP_cases (K A : Arr) (first : Bool) : ((rotP K A first).2 ≠ 0 ∧ (rotP K A first).1 = .mk 0 [] []) ∨ ∃ z, (intsR K).2 = 0 ∧ (intsR K).1 = [z] ∧ rotP K A first = (.mk (A.s ||| totA K) A.shape (rotC A first z), 0) := by
  by_cases h0 : (intsR K).2 = 0
  · rcases listK1 (intsR K).1 with ⟨z, hz⟩ | hne
    · exact .inr ⟨z, h0, hz, rotP_ok h0 hz⟩
    · rw [rotP_len h0 hne]; exact .inl ⟨by simp, rfl⟩
  · left
    unfold rotP
    rw [if_pos h0]
    exact ⟨h0, rfl⟩

theorem rotP_facts {K A : Arr} (kK : okJ K) (hA : okJ A) (oA : arrOK A) (first : Bool) {d : Nat} (rA : rightA d A = true) : arrOK (rotP K A first).1 ∧ ((rotP K A first).2 = 0 → rightA d (rotP K A first).1 = true ∧ okJ (rotP K A first).1) := by
  rcases rotP_cases K A first with ⟨h1, h2⟩ | ⟨z, _, _, h3⟩
  · exact ⟨by rw [h2]; exact arrOK_zero, fun h => absurd h h1⟩
  · rw [h3]
    have hl := or_lt _ _ oA.parts.1 (totA_lt K kK.ok)
    obtain ⟨m1, m2⟩ := rot_mem hA first z
    exact ⟨arrOK_same oA hl rfl m1 m2, fun _ => ⟨right_same rA rfl m1 m2, okJ_same hA hl rfl m1 m2⟩⟩

theorem smallN_ofZ (z : Int) (h0 : -9223372036854775808 ≤ z) (h1 : z ≤ 9223372036854775807) : smallN (ofZ z) = (z, true) := by
  show (if isOneB [1] then smallV (sgnV (decide (z < 0)) (valL (limbs z.natAbs))) (valL (limbs z.natAbs)) else (0, false)) = _
  rw [if_pos (show isOneB [1] = true from rfl), valL_limbs, sgn_dec]
  unfold smallV
  by_cases hz : z < 0
  · rw [decide_eq_true hz, if_pos rfl, if_pos (by omega)]
    have : -(z.natAbs : Int) = z := by omega
    rw [this]
  · rw [decide_eq_false hz, if_neg (by simp), if_pos (by omega)]
    have : (z.natAbs : Int) = z := by omega
    rw [this]

theorem intsR_alone (z : Int) (h0 : -9223372036854775808 ≤ z) (h1 : z ≤ 9223372036854775807) (s : Nat) : intsR (.mk s [] [intC z]) = ([z], 0) := by
  have hi : intOf (intC z) = some z := by
    show (if (0 : Int) = 0 then (if (smallN (ofZ z)).2 = true then some (smallN (ofZ z)).1 else none) else none) = _
    rw [smallN_ofZ z h0 h1]; rfl
  unfold intsR
  simp only [Arr.shape, Arr.cells, List.length_nil, intsF, hi]
  rfl

theorem totA_alone (z : Int) : totA (.mk 0 [] [intC z]) = 0 := by
  simp [totA, totCs, intC, totC, totAs]

theorem okJ_alone (z : Int) (h : z.natAbs < 2 ^ 64) : okJ (.mk 0 [] [intC z]) := ⟨intsJ_ok [z] [] 0 (by simp) (by simp) (by omega) (by intro y hy; simp at hy; subst hy; exact h), by show (cnt []).2 = 0; decide, by rfl⟩
theorem arrOK_alone (z : Int) (h : z.natAbs < 2 ^ 64) : arrOK (.mk 0 [] [intC z]) := ⟨by omega, by simp, by simp [reachBytes], by simp [reachBytes], intJ_OK z h, trivial⟩

/-- the answer for a number alone -/
theorem rotP_alone (z : Int) (h0 : -9223372036854775808 ≤ z) (h1 : z ≤ 9223372036854775807) (A : Arr) (first : Bool) : rotP (.mk 0 [] [intC z]) A first = (.mk A.s A.shape (rotC A first z), 0) := by
  rw [rotP_ok (z := z) (by rw [intsR_alone z h0 h1]) (by rw [intsR_alone z h0 h1]), totA_alone, Nat.or_zero]

theorem v3_eq (a b c : Int) : okJ (.mk 0 [3] [intC a, intC b, intC c]) ∨ True := .inr trivial

theorem okJ_three (a b c : Int) (ha : a.natAbs < 2 ^ 64) (hb : b.natAbs < 2 ^ 64) (hc : c.natAbs < 2 ^ 64) : okJ (.mk 0 [3] ([a, b, c].map intC)) := ⟨intsJ_ok [a, b, c] [3] 0 (by simp) (by simp) (by omega) (by
  intro y hy; simp only [List.mem_cons, List.not_mem_nil, or_false] at hy; rcases hy with rfl | rfl | rfl <;> assumption), by show (cnt [3]).2 = 0; decide, by rfl⟩
theorem arrOK_three (a b c : Int) (ha : a.natAbs < 2 ^ 64) (hb : b.natAbs < 2 ^ 64) (hc : c.natAbs < 2 ^ 64) : arrOK (.mk 0 [3] ([a, b, c].map intC)) := by
  refine ⟨by omega, fun z hz => by simp at hz; subst hz; decide, by simp [reachBytes], by simp [reachBytes], cellsOK_mem.2 fun y hy => ?_⟩
  simp only [List.map_cons, List.map_nil, List.mem_cons, List.not_mem_nil, or_false] at hy
  rcases hy with rfl | rfl | rfl <;> exact intJ_OK _ (by assumption)
end Go.Proofs.Ytfnilbkahkbljaa
namespace Go.Proofs.Ytfnilbkahkbljaa
set_option linter.unusedVariables false
open Go.RowKit

theorem rot_ex : rotP (.mk 0 [] [intC 1]) (.mk 0 [3] ([1, 2, 3].map intC)) false = (.mk 0 [3] ([2, 3, 1].map intC), 0) := by
  rw [rotP_alone 1 (by omega) (by omega)]; rfl
theorem rev_ex : revA (.mk 0 [3] ([2, 3, 1].map intC)) false = .mk 0 [3] ([1, 3, 2].map intC) := rfl

theorem awake14_a : ACalls Try.prog 41 [] (.lit (.bool true)) := by
  have c1 := alone_a 1 0 (by omega) (by omega)
  have c2 := r11Vector_a [1, 2, 3] 0 (by simp [maxB]) (by intro z hz; simp at hz; omega)
  have c3 := rotate_a _ _ false (arrOK_alone 1 (by decide)) (okJ_alone 1 (by decide)) (okJ_three 1 2 3 (by decide) (by decide) (by decide))
  rw [rot_ex] at c3
  simp only at c3
  have e3 : ((([1, 2, 3] : List Int).length : Nat) : Int) = 3 := rfl
  rw [e3] at c2
  have c4 := reverse_a _ false (okJ_three 2 3 1 (by decide) (by decide) (by decide))
  rw [rev_ex] at c4
  have k5 : True → _ := fun _ => r11Vector_a [2, 3, 1] 0 (by simp [maxB]) (by intro z hz; simp at hz; omega)
  have k6 : True → _ := fun _ => r11Vector_a [1, 3, 2] 0 (by simp [maxB]) (by intro z hz; simp at hz; omega)
  have e5 : ((([2, 3, 1] : List Int).length : Nat) : Int) = 3 := rfl
  have e6 : ((([1, 3, 2] : List Int).length : Nat) : Int) = 3 := rfl
  rw [e5] at k5
  rw [e6] at k6
  have c7 := same_a _ _ (arrOK_three 2 3 1 (by decide) (by decide) (by decide)) (arrOK_three 2 3 1 (by decide) (by decide) (by decide))
  have c8 := same_a _ _ (arrOK_three 1 3 2 (by decide) (by decide) (by decide)) (arrOK_three 1 3 2 (by decide) (by decide) (by decide))
  rw [sameA_refl] at c7 c8
  generalize List.map intC [1, 2, 3] = X at c2 c3
  generalize List.map intC [2, 3, 1] = Y at c3 c4 k5 c7
  generalize List.map intC [1, 3, 2] = Z at c4 k6 c8
  have k2 : True → _ := fun _ => c2
  clear c2
  refine acalls_of code_scrimlaw14_awake (by simp [fn_scrimlaw14_awake]) fun C hC => ?_
  refine walk2 ?_
  refine aw_reg (rrun2 ?_)
  refine r_callF 0 [0] (k2 trivial) ?_
  refine rrun2 ?_
  refine rg_nil ⟨rfl, ?_⟩
  refine walk2 ?_
  refine aw_reg (rrun2 ?_)
  refine r_callF 2 [2] (k5 trivial) ?_
  refine rrun2 ?_
  refine r_callF 3 [3] (k6 trivial) ?_
  refine rrun2 ?_
  refine rg_nil ⟨rfl, ?_⟩
  refine walk2 ?_
  exact fin

theorem turnRotates_core (K A : Arr) (first : Bool) (hK : arrOK K) (hA : arrOK A) (gK : (goodA K && decide (K.cells.length ≤ 100)) = true) (gA : (goodA A && decide (A.cells.length ≤ 100)) = true) (R : Arr) (e : Int) (hR : rotP K A first = (R, e)) :
    ACalls Try.prog 9 [.agg (arrV K), .agg (arrV A), .lit (.bool first)] (.lit (.bool true)) := by
  have kK := okJ_good hK (light_good gK)
  have kA := okJ_good hA (light_good gA)
  have c0 := awake14_a
  have c1 := light14_at K hK gK
  have c2 := light14_at A hA gA
  have c3 := rotate_a K A first hK kK kA
  have c4 := refRotate_a K A first hK kK kA
  obtain ⟨oR, rR⟩ := rotP_facts kK kA hA first (good_right (light_good gA))
  rw [hR] at c3 c4 oR rR
  simp only at c3 c4 oR rR
  have c5 := same10_a R R e e oR oR
  rw [sameA_refl, decide_eq_true rfl, Bool.true_and] at c5
  by_cases he : e = 0
  · have c6 := right_at 8 R 8 rfl (by omega) oR (rR he).1
    subst he
    clear hK hA gK gA kK kA oR rR hR
    refine acalls_of code_scrimlaw14_TurnRotates (by simp [fn_scrimlaw14_TurnRotates]) fun C hC => ?_
    refine walk2 ?_
    exact fin
  · clear hK hA gK gA kK kA oR rR hR
    refine acalls_of code_scrimlaw14_TurnRotates (by simp [fn_scrimlaw14_TurnRotates]) fun C hC => ?_
    refine walk2 ?_
    exact fin

theorem turnRotates_a (K A : Arr) (first : Bool) (hK : arrOK K) (hA : arrOK A) :
    ACalls Try.prog 9 [.agg (arrV K), .agg (arrV A), .lit (.bool first)] (.lit (.bool true)) := by
  have c0 := awake14_a
  cases gK : (goodA K && decide (K.cells.length ≤ 100))
  · have c1 := light14_at K hK gK
    refine acalls_of code_scrimlaw14_TurnRotates (by simp [fn_scrimlaw14_TurnRotates]) fun C hC => ?_
    refine walk2 ?_
    exact fin
  · cases gA : (goodA A && decide (A.cells.length ≤ 100))
    · have c1 := light14_at K hK gK
      have c2 := light14_at A hA gA
      refine acalls_of code_scrimlaw14_TurnRotates (by simp [fn_scrimlaw14_TurnRotates]) fun C hC => ?_
      refine walk2 ?_
      exact fin
    · exact turnRotates_core K A first hK hA gK gA _ _ rfl

theorem rotC_zero (A : Arr) (hA : okJ A) (first : Bool) : rotC A first 0 = A.cells := by
  unfold rotC
  split
  · rfl
  · rename_i h
    refine permL_id fun i hi => ?_
    have K := ax_at hA first h (by omega)
    have hj := jOf_lt (B := behT A first) K.L_pos i
    rw [Int.zero_emod, Int.toNat_zero, Nat.add_zero, Nat.mod_eq_of_lt hj]
    exact rot_self i

theorem rotC_rotC (A : Arr) (hA : okJ A) (first : Bool) (y z : Int) : rotC (.mk A.s A.shape (rotC A first y)) first z = rotC A first (y + z) := by
  have hL : lenT (.mk A.s A.shape (rotC A first y)) first = lenT A first := rfl
  have hBe : behT (.mk A.s A.shape (rotC A first y)) first = behT A first := rfl
  by_cases h : A.shape = []
  · have e0 : ∀ (B : Arr) w, B.shape = [] → rotC B first w = B.cells := fun B w h => by unfold rotC; rw [if_pos h]
    rw [e0 _ _ (show (Arr.mk A.s A.shape (rotC A first y)).shape = [] from h), e0 A _ h]
    exact (e0 A (y + z) h).symm
  · have e1 : rotC (.mk A.s A.shape (rotC A first y)) first z = permL (rotC A first y) (fun i => rotI (lenT A first) (behT A first) ((jOf (lenT A first) (behT A first) i + (z % (lenT A first : Nat)).toNat) % lenT A first) i) := by
      show (if A.shape = [] then _ else _) = _
      rw [if_neg h]
      rfl
    have e2 : ∀ w, rotC A first w = permL A.cells (fun i => rotI (lenT A first) (behT A first) ((jOf (lenT A first) (behT A first) i + (w % (lenT A first : Nat)).toNat) % lenT A first) i) := fun w => by unfold rotC; rw [if_neg h]
    rw [e1, e2 y, e2 (y + z), permL_perm]
    · refine permL_congr fun i hi => ?_
      have K := ax_at hA first h (by omega)
      have hL := K.L_pos
      have hB := K.B_pos
      rw [jOf_rot hB (Nat.mod_lt _ hL), rot_rot hB (Nat.mod_lt _ hL)]
      congr 1
      have h1 : 0 ≤ y % ((lenT A first : Nat) : Int) := Int.emod_nonneg _ (by omega)
      have h2 : 0 ≤ z % ((lenT A first : Nat) : Int) := Int.emod_nonneg _ (by omega)
      have h3 : ((y + z) % ((lenT A first : Nat) : Int)).toNat = ((y % ((lenT A first : Nat) : Int)).toNat + (z % ((lenT A first : Nat) : Int)).toNat) % lenT A first := by
        rw [Int.add_emod]
        have : y % ((lenT A first : Nat) : Int) + z % ((lenT A first : Nat) : Int) = (((y % ((lenT A first : Nat) : Int)).toNat + (z % ((lenT A first : Nat) : Int)).toNat : Nat) : Int) := by omega
        rw [this, ← Int.natCast_emod, Int.toNat_natCast]
      rw [h3, Nat.mod_add_mod, Nat.add_mod_mod]
      congr 1
      omega
    · intro i hi
      have K := ax_at hA first h (by omega)
      exact (K.idx hA hi (Nat.mod_lt _ K.L_pos)).2

theorem natAbs_64 {z : Int} (h0 : -9223372036854775808 ≤ z) (h1 : z ≤ 9223372036854775807) : z.natAbs < 2 ^ 64 := by omega

set_option maxHeartbeats 2000000 in
theorem turnBack_a (A : Arr) (m n : Int) (first : Bool) (hA : arrOK A) (hm0 : -32768 ≤ m) (hm1 : m ≤ 32767) (hn0 : -32768 ≤ n) (hn1 : n ≤ 32767) :
    ACalls Try.prog 10 [.agg (arrV A), .lit (.int .i16 m), .lit (.int .i16 n), .lit (.bool first)] (.lit (.bool true)) := by
  have c0 := awake14_a
  cases gA : (goodA A && decide (A.cells.length ≤ 100))
  · have c1 := light14_at A hA gA
    refine acalls_of code_scrimlaw14_TurnBack (by simp [fn_scrimlaw14_TurnBack]) fun C hC => ?_
    refine walk2 ?_
    exact fin
  · have kA := okJ_good hA (light_good gA)
    have c1 := light14_at A hA gA
    have rot : ∀ (B : Arr) (z : Int), okJ B → -9223372036854775808 ≤ z → z ≤ 9223372036854775807 → ACalls Try.prog 42 [.agg (arrV (.mk 0 [] [intC z])), .agg (arrV B), .lit (.bool first)] (.tup [.agg (arrV (.mk B.s B.shape (rotC B first z))), .lit (.int .i64 0)]) := fun B z kB h0 h1 => by
      have := rotate_a _ B first (arrOK_alone z (natAbs_64 h0 h1)) (okJ_alone z (natAbs_64 h0 h1)) kB
      rw [rotP_alone z h0 h1] at this
      exact this
    obtain ⟨m1, m2⟩ := rot_mem kA first m
    have kX : okJ (.mk A.s A.shape (rotC A first m)) := okJ_same kA hA.parts.1 rfl m1 m2
    have c2 := alone_a m 0 (by omega) (by omega)
    have c3 := rot A m kA (by omega) (by omega)
    have c4 := alone_a (0 - m) 0 (by omega) (by omega)
    have c5 := rot _ (0 - m) kX (by omega) (by omega)
    have c6 := alone_a n 0 (by omega) (by omega)
    have c7 := rot _ n kX (by omega) (by omega)
    have c8 := alone_a (m + n) 0 (by omega) (by omega)
    have c9 := rot A (m + n) kA (by omega) (by omega)
    rw [rotC_rotC A kA first, show m + (0 - m) = 0 from by omega, rotC_zero A kA first] at c5
    rw [rotC_rotC A kA first] at c7
    obtain ⟨w1, w2⟩ := rot_mem kA first (m + n)
    have oW : arrOK (.mk A.s A.shape (rotC A first (m + n))) := arrOK_same hA hA.parts.1 rfl w1 w2
    have d1 := same_a A A hA hA
    have d2 := same_a _ _ oW oW
    rw [sameA_refl] at d1 d2
    have eA : (Arr.mk A.s A.shape A.cells) = A := by cases A; rfl
    simp only [Arr.s, Arr.shape] at c5 c7
    have eA2 : arrV (.mk A.s A.shape A.cells) = arrV A := by rw [eA]
    have c5' : ACalls Try.prog 42 [.agg (arrV (.mk 0 [] [intC (0 - m)])), .agg (arrV (.mk A.s A.shape (rotC A first m))), .lit (.bool first)] (.tup [.agg (arrV A), .lit (.int .i64 0)]) := by rw [← eA2]; exact c5
    have c7' : ACalls Try.prog 42 [.agg (arrV (.mk 0 [] [intC n])), .agg (arrV (.mk A.s A.shape (rotC A first m))), .lit (.bool first)] (.tup [.agg (arrV (.mk A.s A.shape (rotC A first (m + n)))), .lit (.int .i64 0)]) := c7
    clear c5 c7 rot kX oW m1 m2 w1 w2 eA eA2
    generalize (Arr.mk A.s A.shape (rotC A first (m + n))) = W at *
    generalize (Arr.mk A.s A.shape (rotC A first m)) = X at *
    generalize hN1 : (Arr.mk 0 [] [intC m]) = N1 at *
    generalize hN2 : (Arr.mk 0 [] [intC (0 - m)]) = N2 at *
    generalize hN3 : (Arr.mk 0 [] [intC n]) = N3 at *
    generalize hN4 : (Arr.mk 0 [] [intC (m + n)]) = N4 at *
    clear hN1 hN2 hN3 hN4
    refine acalls_of code_scrimlaw14_TurnBack (by simp [fn_scrimlaw14_TurnBack]) fun C hC => ?_
    refine walk2 ?_
    refine aw_reg (rrun2 ?_)
    refine r_neg (0 - m) (i64_wrap _ (by omega) (by omega)) ?_
    refine rrun2 ?_
    refine rg_nil ⟨rfl, ?_⟩
    refine walk2 ?_
    exact fin

theorem i16_bounds {m : Int} (h : (Lit.int .i16 m).wf = true) : -32768 ≤ m ∧ m ≤ 32767 := by
  have e1 : IntKind.i16.min = -32768 := by decide
  have e2 : IntKind.i16.max = 32767 := by decide
  simp only [Lit.wf, Bool.and_eq_true, decide_eq_true_eq] at h
  omega
theorem turnBackL_a (A : Arr) (m n : Int) (first : Bool) (hA : arrOK A) (hm : (Lit.int .i16 m).wf = true) (hn : (Lit.int .i16 n).wf = true) :
    ACalls Try.prog 10 [.agg (arrV A), .lit (.int .i16 m), .lit (.int .i16 n), .lit (.bool first)] (.lit (.bool true)) := turnBack_a A m n first hA (i16_bounds hm).1 (i16_bounds hm).2 (i16_bounds hn).1 (i16_bounds hn).2
end Go.Proofs.Ytfnilbkahkbljaa
