/- Arrays put together: the law JoinCatenates. -/
import Derived.Test.YtfnilbkahkbljaaJoinW
import Derived.Test.YtfnilbkahkbljaaNumB
import Derived.Test.YtfnilbkahkbljaaSameP
namespace Go.Proofs.Ytfnilbkahkbljaa
set_option linter.unusedVariables false
open Go.RowKit

theorem catL_mem {n1 n2 : Nat} {a1 : Bool} {c1 : List Cell} {a2 : Bool} {c2 : List Cell} (e1 : a1 = true → 0 < c1.length) (e2 : a2 = true → 0 < c2.length) (A : Nat) (h1 : a1 = false → A * n1 ≤ c1.length) (h2 : a2 = false → A * n2 ≤ c2.length) : ∀ i, i ≤ A → ∀ c ∈ catL n1 n2 a1 c1 a2 c2 (i * (n1 + n2)), c ∈ c1 ∨ c ∈ c2
  | 0, _, c, hc => by rw [Nat.zero_mul] at hc; simp [catL] at hc
  | i + 1, hi, c, hc => by
    have hrow : ∀ (al : Bool) (cs : List Cell) (n : Nat), (al = true → 0 < cs.length) → ∀ c ∈ rowL al cs i n, c ∈ cs := fun al cs n he c hc => by
      unfold rowL at hc
      split at hc
      · rename_i h
        have := he h
        rw [List.mem_replicate] at hc
        rw [hc.2, List.getD_eq_getElem?_getD, List.getElem?_eq_getElem this]
        exact List.getElem_mem _
      · exact List.mem_of_mem_drop (List.mem_of_mem_take hc)
    have b1 : a1 = false → i * n1 + n1 ≤ c1.length := fun h => by
      have := h1 h
      have h3 : (i + 1) * n1 ≤ A * n1 := Nat.mul_le_mul_right _ hi
      rw [Nat.add_mul, Nat.one_mul] at h3; omega
    have b2 : a2 = false → i * n2 + n2 ≤ c2.length := fun h => by
      have := h2 h
      have h3 : (i + 1) * n2 ≤ A * n2 := Nat.mul_le_mul_right _ hi
      rw [Nat.add_mul, Nat.one_mul] at h3; omega
    rw [← catL_step n1 n2 a1 c1 a2 c2 i b1 b2, List.mem_append, List.mem_append] at hc
    rcases hc with (hc | hc) | hc
    · exact catL_mem e1 e2 A h1 h2 i (by omega) c hc
    · exact .inl (hrow a1 c1 n1 e1 c hc)
    · exact .inr (hrow a2 c2 n2 e2 c hc)

/-- what is known of both together -/
theorem cat_facts {A B : Arr} (hA : okJ A) (hB : okJ B) (first : Bool) :
    ((catP A B first).2 ≠ 0 ∧ (catP A B first).1 = .mk 0 [] []) ∨
    ((catP A B first).2 = 0 ∧ (catP A B first).1.s = A.s ||| B.s ∧ (cnt (catP A B first).1.shape).2 = 0 ∧ (cnt (catP A B first).1.shape).1 = (catP A B first).1.cells.length ∧ (catP A B first).1.shape.length ≤ 6 ∧ ∀ c ∈ (catP A B first).1.cells, c ∈ A.cells ∨ c ∈ B.cells) := by
  rcases cat_cases hA hB first with ⟨he, hn⟩ | ⟨s, t, al, bl, n1, n2, u, K, b1, b2, hr⟩
  · left; rw [he]; exact ⟨by simp, rfl⟩
  · rcases hr with ⟨hw, he⟩ | ⟨hw, h0, he⟩ | ⟨hw, h0, he⟩
    · left; rw [he]; exact ⟨by simp, rfl⟩
    · left; rw [he]; exact ⟨h0, rfl⟩
    · right
      rw [he]
      obtain ⟨z1, z2, z3, z4, z5, z6, z7, z8⟩ := K.sizes hw h0
      refine ⟨rfl, rfl, h0, ?_, ?_, ?_⟩
      · simp only [Arr.shape, Arr.cells, catL_len]; exact z2
      · simp only [Arr.shape]; exact cnt_len h0
      · simp only [Arr.cells]
        exact catL_mem (fun h => by have := (K.al1 h).2; omega) (fun h => by have := (K.bl1 h).2; omega) _ z3 z4 _ (Nat.le_refl _)

theorem zeroJ : okJ (.mk 0 [] []) ∨ True := .inr trivial
theorem arrOK_zero : arrOK (.mk 0 [] []) := ⟨by omega, by simp, by simp [reachBytes], by simp [reachBytes], trivial⟩

theorem right_cat {A B : Arr} {d : Nat} (hA : okJ A) (hB : okJ B) (rA : rightA d A = true) (rB : rightA d B = true) (first : Bool) (h : (catP A B first).2 = 0) : rightA d (catP A B first).1 = true := by
  rcases cat_facts hA hB first with ⟨h1, _⟩ | ⟨_, _, h2, h3, _, h4⟩
  · exact absurd h h1
  · rw [rightA_eq, rcnt_eq, h2, h3]
    simp only [beq_self_eq_true, Bool.true_and]
    refine rightCs_mem.2 fun c hc => ?_
    rcases h4 c hc with h | h
    · exact rightCs_mem.1 (right_shape rA).2.2 c h
    · exact rightCs_mem.1 (right_shape rB).2.2 c h

theorem i64_wf {z : Int} (h0 : -9223372036854775808 ≤ z) (h1 : z ≤ 9223372036854775807) : (Lit.int .i64 z).wf = true := by
  have e1 : IntKind.i64.min = -9223372036854775808 := by decide
  have e2 : IntKind.i64.max = 9223372036854775807 := by decide
  simp only [Lit.wf, Bool.and_eq_true, decide_eq_true_eq]
  omega

theorem arrOK_cat {A B : Arr} (hA : okJ A) (hB : okJ B) (oA : arrOK A) (oB : arrOK B) (first : Bool) : arrOK (catP A B first).1 := by
  rcases cat_facts hA hB first with ⟨_, h1⟩ | ⟨_, h1, h2, h3, h4, h5⟩
  · rw [h1]; exact arrOK_zero
  · have hle := (cnt_le (catP A B first).1.shape).2
    generalize catP A B first = R at *
    obtain ⟨⟨s, sh, cs⟩, e⟩ := R
    simp only [Arr.s, Arr.shape, Arr.cells] at *
    have hsm := cnt_small h2
    refine ⟨by rw [h1]; exact or_lt _ _ oA.parts.1 oB.parts.1, ?_⟩
    have hr : reachBytes = 140737488351232 := rfl
    refine ⟨fun z hz => i64_wf (by have := (hsm z hz).1; omega) (by have := (hsm z hz).2; omega), by omega, by omega, ?_⟩
    exact cellsOK_mem.2 fun c hc => by
      rcases h5 c hc with h | h
      · exact cellsOK_mem.1 oA.parts.2.2.2 c h
      · exact cellsOK_mem.1 oB.parts.2.2.2 c h

theorem same10_a (A B : Arr) (e f : Int) (hA : arrOK A) (hB : arrOK B) : ACalls Try.prog 27 [.agg (arrV A), .lit (.int .i64 e), .agg (arrV B), .lit (.int .i64 f)] (.lit (.bool (decide (e = f) && sameA A B))) := by
  have c1 := same_a A B hA hB
  generalize sameA A B = q at c1 ⊢
  refine acalls_of code_scrimref10_Same (by simp [fn_scrimref10_Same]) fun C hC => ?_
  by_cases h : e = f
  · rw [decide_eq_true h, Bool.true_and]
    refine walk2 ?_
    exact fin
  · rw [decide_eq_false h, Bool.false_and]
    refine walk2 ?_
    exact fin

theorem alone_a (z : Int) (s : Nat) (h0 : -9223372036854775808 ≤ z) (h1 : z ≤ 9223372036854775807) : ACalls Try.prog 44 [.lit (.int .i64 z), labV s] (.agg (arrV (.mk s [] [intC z]))) := by
  have c1 := r8Int_a z h0 h1
  refine acalls_of code_scrimref11_Alone (by simp [fn_scrimref11_Alone]) fun C hC => ?_
  refine walk2 ?_
  exact fin

theorem intJ_ok (z : Int) (h : z.natAbs < 2 ^ 64) : okC (intC z) := by
  have := limbs_len_pow 64 z.natAbs h
  simp only [intC, okC, ofZ, okAs, maxB, List.length_nil, List.length_cons]
  exact ⟨by omega, by omega, by omega, by omega, trivial⟩

theorem u32J_ok {m : List Int} (h : limOK m) : ∀ z ∈ m, (Lit.int .u32 z).wf = true := fun z hz => by
  have := h z hz
  have e1 : IntKind.u32.min = 0 := by decide
  have e2 : IntKind.u32.max = 4294967295 := by decide
  simp only [Lit.wf, Bool.and_eq_true, decide_eq_true_eq]
  omega

theorem intJ_OK (z : Int) (h : z.natAbs < 2 ^ 64) : cellOK (intC z) := by
  have := limbs_len_pow 64 z.natAbs h
  have hr : reachBytes = 140737488351232 := by decide
  simp only [intC, cellOK, ofZ, numOK, arrsOK, List.length_nil, List.length_cons]
  exact ⟨by omega, by decide, ⟨u32J_ok (limbs_ok _), by simp; decide, by omega, by omega⟩, by decide, by omega, trivial⟩

theorem okCs_of {cs : List Cell} (h : ∀ c ∈ cs, okC c) : okCs cs := okCs_mem.2 h

theorem intsJ_ok (l : List Int) (sh : List Int) (s : Nat) (hl : l.length ≤ 1000) (hs : sh.length ≤ 6) (h64 : s < 18446744073709551616) (hz : ∀ z ∈ l, z.natAbs < 2 ^ 64) : okA (.mk s sh (l.map intC)) := by
  simp only [okA]
  refine ⟨h64, by simp only [maxB]; omega, by simp only [maxB, List.length_map]; omega, okCs_of fun c hc => ?_⟩
  obtain ⟨z, hz', rfl⟩ := List.mem_map.1 hc
  exact intJ_ok z (hz z hz')

theorem refCat_a (A B : Arr) (first : Bool) (hA : okJ A) (hB : okJ B) : ACalls Try.prog 26 [.agg (arrV A), .agg (arrV B), .lit (.bool first)] (.tup [.agg (arrV (catP A B first).1), .lit (.int .i64 (catP A B first).2)]) := by
  have hB0 : maxB = 1000000000 := rfl
  have hl1 := hA.len
  have hl2 := hB.len
  have lA := intsA_len .i64 A.shape
  have lB := intsA_len .i64 B.shape
  have hx : atN A B first < axN A B := by unfold atN axN; split <;> omega
  have hll1 := longer_a A.shape.length B.shape.length (max A.shape.length B.shape.length : Nat) (by omega)
  have hll2 := longer_a 1 (max A.shape.length B.shape.length : Nat) (axN A B : Nat) (by unfold axN; omega)
  have hk : (first = false ∧ ((atN A B first : Nat) : Int) = ((axN A B : Nat) : Int) - 1) ∨ (first = true ∧ ((atN A B first : Nat) : Int) = 0) := by
    unfold atN; cases first
    · left; simp; omega
    · right; simp
  have h6 : axN A B ≤ 6 := by unfold axN; omega
  rcases cat_cases hA hB first with ⟨he, hn⟩ | ⟨s, t, al, bl, n1, n2, u, K, b1, b2, hr⟩
  · rw [he]
    have w1 := counted_a A B hl1 hl2 (axN A B) (atN A B first) rfl hx
    have w2 := counted_a B A hl2 hl1 (axN A B) (atN A B first) (axN_comm A B) hx
    cases h1 : widP A.shape B.shape (axN A B) (atN A B first) with
    | none =>
      have w1 := w1.2 h1
      clear w2 hn h1 he
      generalize axN A B = N at *
      generalize atN A B first = x at *
      refine acalls_of code_scrimref12_Catenate (by simp [fn_scrimref12_Catenate]) fun C hC => ?_
      rcases hk with ⟨rfl, hk⟩ | ⟨rfl, hk⟩
      all_goals
        rw [hk] at w1
        refine walk2 ?_
        exact fin
    | some p =>
      obtain ⟨s, al⟩ := p
      have h2 : widP B.shape A.shape (axN A B) (atN A B first) = none := by
        rcases hn with h | h
        · rw [h] at h1; cases h1
        · exact h
      have w1 := w1.1 s al h1
      have w2 := w2.2 h2
      clear hn h1 he h2
      generalize axN A B = N at *
      generalize atN A B first = x at *
      refine acalls_of code_scrimref12_Catenate (by simp [fn_scrimref12_Catenate]) fun C hC => ?_
      rcases hk with ⟨rfl, hk⟩ | ⟨rfl, hk⟩
      all_goals
        rw [hk] at w1 w2
        refine walk2 ?_
        exact fin
  · rcases hr with ⟨hw, he⟩ | ⟨hw, h0, he⟩ | ⟨hw, h0, he⟩
    · rw [he]
      have w1 := (counted_a A B hl1 hl2 (axN A B) (atN A B first) rfl hx).1 s al K.w1
      have w2 := (counted_a B A hl2 hl1 (axN A B) (atN A B first) (axN_comm A B) hx).1 t bl K.w2
      have hxs := (List.getElem?_eq_some_iff.1 K.sx).1
      have hxt := (List.getElem?_eq_some_iff.1 K.tx).1
      have hls := K.ls
      have hlt := K.lt
      have w3 := refWithout_a s (atN A B first) hxs (by omega)
      have w4 := refWithout_a t (atN A B first) hxt (by omega)
      have w5 := ints_a (wout s (atN A B first)) (wout t (atN A B first))
      rw [intsP_eq, decide_eq_false hw] at w5
      unfold wout at w5
      clear he hw K
      generalize axN A B = N at *
      generalize atN A B first = x at *
      generalize s.take x ++ s.drop (x + 1) = ws at w3 w5
      generalize t.take x ++ t.drop (x + 1) = wt at w4 w5
      refine acalls_of code_scrimref12_Catenate (by simp [fn_scrimref12_Catenate]) fun C hC => ?_
      rcases hk with ⟨rfl, hk⟩ | ⟨rfl, hk⟩
      all_goals
        rw [hk] at w1 w2 w3 w4
        refine walk2 ?_
        exact fin
    · rw [he]
      have w1 := (counted_a A B hl1 hl2 (axN A B) (atN A B first) rfl hx).1 s al K.w1
      have w2 := (counted_a B A hl2 hl1 (axN A B) (atN A B first) (axN_comm A B) hx).1 t bl K.w2
      have hxs := (List.getElem?_eq_some_iff.1 K.sx).1
      have hxt := (List.getElem?_eq_some_iff.1 K.tx).1
      have hls := K.ls
      have hlt := K.lt
      have w3 := refWithout_a s (atN A B first) hxs (by omega)
      have w4 := refWithout_a t (atN A B first) hxt (by omega)
      have w5 := ints_a (wout s (atN A B first)) (wout t (atN A B first))
      rw [intsP_eq, hw, decide_eq_true rfl] at w5
      unfold wout at w5
      rw [show s.take (atN A B first) ++ s.drop (atN A B first + 1) = t.take (atN A B first) ++ t.drop (atN A B first + 1) from hw] at w3
      have w6 := refWith_a s (atN A B first) ((n1 : Int) + n2) hxs (by omega)
      rw [← K.hu] at w6
      have w7 := rcount_a u
      rw [rcnt_eq] at w7
      have hsx : (intsA .i64 s)[((atN A B first : Nat) : Int).toNat]? = some [.lit (.int .i64 (n1 : Int))] := int_at K.sx
      have htx : (intsA .i64 t)[((atN A B first : Nat) : Int).toNat]? = some [.lit (.int .i64 (n2 : Int))] := int_at K.tx
      have lis := intsA_len .i64 s
      have lit := intsA_len .i64 t
      clear he hw K
      generalize axN A B = N at *
      generalize atN A B first = x at *
      generalize t.take x ++ t.drop (x + 1) = wt at w3 w4 w5
      generalize (cnt u).1 = T at *
      generalize (cnt u).2 = e at *
      refine acalls_of code_scrimref12_Catenate (by simp [fn_scrimref12_Catenate]) fun C hC => ?_
      rcases hk with ⟨rfl, hk⟩ | ⟨rfl, hk⟩
      all_goals
        rw [hk] at w1 w2 w3 w4 w6 hsx htx
        refine walk2 ?_
        exact fin
    · rw [he]
      exact refCat_ok hA hB K b1 b2 hw h0 _ rfl
end Go.Proofs.Ytfnilbkahkbljaa
