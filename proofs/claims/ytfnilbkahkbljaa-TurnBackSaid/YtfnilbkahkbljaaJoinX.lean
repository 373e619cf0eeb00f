/- Arrays put together: the law JoinCatenates. -/
import Derived.Test.YtfnilbkahkbljaaJoinV
import Derived.Test.YtfnilbkahkbljaaNumB
import Derived.Test.YtfnilbkahkbljaaSameP
namespace Go.Proofs.Ytfnilbkahkbljaa
set_option linter.unusedVariables false
open Go.RowKit

theorem catL_mem {n1 n2 : Nat} {a1 : Bool} {c1 : List Cell} {a2 : Bool} {c2 : List Cell} (e1 : a1 = true → 0 < c1.length) (e2 : a2 = true → 0 < c2.length) (A : Nat) (h1 : a1 = false → A * n1 ≤ c1.length) (h2 : a2 = false → A * n2 ≤ c2.length) : ∀ i, i ≤ A → ∀ c ∈ catL n1 n2 a1 c1 a2 c2 (i * (n1 + n2)), c ∈ c1 ∨ c ∈ c2
  | 0, _, c, hc => by rw [Nat.zero_mul] at hc; simp [catL] at hc
  | i + 1, hi, c, hc => by
    have hrow : ∀ (al : Bool) (cs : List Cell) (n : Nat), (al = true → 0 < cs.length) → ∀ c ∈ rowL al cs i n, c ∈ cs := fun al cs n he c hc => by
      unfold rowL at hc
      split at hc
      · rename_i h
        have := he h
        rw [List.mem_replicate] at hc
        rw [hc.2, List.getD_eq_getElem?_getD, List.getElem?_eq_getElem this]
        exact List.getElem_mem _
      · exact List.mem_of_mem_drop (List.mem_of_mem_take hc)
    have b1 : a1 = false → i * n1 + n1 ≤ c1.length := fun h => by
      have := h1 h
      have h3 : (i + 1) * n1 ≤ A * n1 := Nat.mul_le_mul_right _ hi
      rw [Nat.add_mul, Nat.one_mul] at h3; omega
    have b2 : a2 = false → i * n2 + n2 ≤ c2.length := fun h => by
      have := h2 h
      have h3 : (i + 1) * n2 ≤ A * n2 := Nat.mul_le_mul_right _ hi
      rw [Nat.add_mul, Nat.one_mul] at h3; omega
    rw [← catL_step n1 n2 a1 c1 a2 c2 i b1 b2, List.mem_append, List.mem_append] at hc
    rcases hc with (hc | hc) | hc
    · exact catL_mem e1 e2 A h1 h2 i (by omega) c hc
    · exact .inl (hrow a1 c1 n1 e1 c hc)
    · exact .inr (hrow a2 c2 n2 e2 c hc)

/-- what is known of both together -/
theorem cat_facts {A B : Arr} (hA : okJ A) (hB : okJ B) (first : Bool) :
    ((catP A B first).2 ≠ 0 ∧ (catP A B first).1 = .mk 0 [] []) ∨
    ((catP A B first).2 = 0 ∧ (catP A B first).1.s = A.s ||| B.s ∧ (cnt (catP A B first).1.shape).2 = 0 ∧ (cnt (catP A B first).1.shape).1 = (catP A B first).1.cells.length ∧ (catP A B first).1.shape.length ≤ 6 ∧ ∀ c ∈ (catP A B first).1.cells, c ∈ A.cells ∨ c ∈ B.cells) := by
  rcases cat_cases hA hB first with ⟨he, hn⟩ | ⟨s, t, al, bl, n1, n2, u, K, b1, b2, hr⟩
  · left; rw [he]; exact ⟨by simp, rfl⟩
  · rcases hr with ⟨hw, he⟩ | ⟨hw, h0, he⟩ | ⟨hw, h0, he⟩
    · left; rw [he]; exact ⟨by simp, rfl⟩
    · left; rw [he]; exact ⟨h0, rfl⟩
    · right
      rw [he]
      obtain ⟨z1, z2, z3, z4, z5, z6, z7, z8⟩ := K.sizes hw h0
      refine ⟨rfl, rfl, h0, ?_, ?_, ?_⟩
      · simp only [Arr.shape, Arr.cells, catL_len]; exact z2
      · simp only [Arr.shape]; exact cnt_len h0
      · simp only [Arr.cells]
        exact catL_mem (fun h => by have := (K.al1 h).2; omega) (fun h => by have := (K.bl1 h).2; omega) _ z3 z4 _ (Nat.le_refl _)

theorem zeroJ : okJ (.mk 0 [] []) ∨ True := .inr trivial
theorem arrOK_zero : arrOK (.mk 0 [] []) := ⟨by omega, by simp, by simp [reachBytes], by simp [reachBytes], trivial⟩

theorem right_cat {A B : Arr} {d : Nat} (hA : okJ A) (hB : okJ B) (rA : rightA d A = true) (rB : rightA d B = true) (first : Bool) (h : (catP A B first).2 = 0) : rightA d (catP A B first).1 = true := by
  rcases cat_facts hA hB first with ⟨h1, _⟩ | ⟨_, _, h2, h3, _, h4⟩
  · exact absurd h h1
  · rw [rightA_eq, rcnt_eq, h2, h3]
    simp only [beq_self_eq_true, Bool.true_and]
    refine rightCs_mem.2 fun c hc => ?_
    rcases h4 c hc with h | h
    · exact rightCs_mem.1 (right_shape rA).2.2 c h
    · exact rightCs_mem.1 (right_shape rB).2.2 c h

theorem i64_wf {z : Int} (h0 : -9223372036854775808 ≤ z) (h1 : z ≤ 9223372036854775807) : (Lit.int .i64 z).wf = true := by
  have e1 : IntKind.i64.min = -9223372036854775808 := by decide
  have e2 : IntKind.i64.max = 9223372036854775807 := by decide
  simp only [Lit.wf, Bool.and_eq_true, decide_eq_true_eq]
  omega

theorem arrOK_cat {A B : Arr} (hA : okJ A) (hB : okJ B) (oA : arrOK A) (oB : arrOK B) (first : Bool) : arrOK (catP A B first).1 := by
  rcases cat_facts hA hB first with ⟨_, h1⟩ | ⟨_, h1, h2, h3, h4, h5⟩
  · rw [h1]; exact arrOK_zero
  · have hle := (cnt_le (catP A B first).1.shape).2
    generalize catP A B first = R at *
    obtain ⟨⟨s, sh, cs⟩, e⟩ := R
    simp only [Arr.s, Arr.shape, Arr.cells] at *
    have hsm := cnt_small h2
    refine ⟨by rw [h1]; exact or_lt _ _ oA.parts.1 oB.parts.1, ?_⟩
    have hr : reachBytes = 140737488351232 := rfl
    refine ⟨fun z hz => i64_wf (by have := (hsm z hz).1; omega) (by have := (hsm z hz).2; omega), by omega, by omega, ?_⟩
    exact cellsOK_mem.2 fun c hc => by
      rcases h5 c hc with h | h
      · exact cellsOK_mem.1 oA.parts.2.2.2 c h
      · exact cellsOK_mem.1 oB.parts.2.2.2 c h

theorem same10_a (A B : Arr) (e f : Int) (hA : arrOK A) (hB : arrOK B) : ACalls Try.prog 27 [.agg (arrV A), .lit (.int .i64 e), .agg (arrV B), .lit (.int .i64 f)] (.lit (.bool (decide (e = f) && sameA A B))) := by
  have c1 := same_a A B hA hB
  generalize sameA A B = q at c1 ⊢
  refine acalls_of code_scrimref10_Same (by simp [fn_scrimref10_Same]) fun C hC => ?_
  by_cases h : e = f
  · rw [decide_eq_true h, Bool.true_and]
    refine walk2 ?_
    exact fin
  · rw [decide_eq_false h, Bool.false_and]
    refine walk2 ?_
    exact fin

theorem alone_a (z : Int) (s : Nat) (h0 : -9223372036854775808 ≤ z) (h1 : z ≤ 9223372036854775807) : ACalls Try.prog 44 [.lit (.int .i64 z), labV s] (.agg (arrV (.mk s [] [intC z]))) := by
  have c1 := r8Int_a z h0 h1
  refine acalls_of code_scrimref11_Alone (by simp [fn_scrimref11_Alone]) fun C hC => ?_
  refine walk2 ?_
  exact fin

theorem intJ_ok (z : Int) (h : z.natAbs < 2 ^ 64) : okC (intC z) := by
  have := limbs_len_pow 64 z.natAbs h
  simp only [intC, okC, ofZ, okAs, maxB, List.length_nil, List.length_cons]
  exact ⟨by omega, by omega, by omega, by omega, trivial⟩

theorem u32J_ok {m : List Int} (h : limOK m) : ∀ z ∈ m, (Lit.int .u32 z).wf = true := fun z hz => by
  have := h z hz
  have e1 : IntKind.u32.min = 0 := by decide
  have e2 : IntKind.u32.max = 4294967295 := by decide
  simp only [Lit.wf, Bool.and_eq_true, decide_eq_true_eq]
  omega

theorem intJ_OK (z : Int) (h : z.natAbs < 2 ^ 64) : cellOK (intC z) := by
  have := limbs_len_pow 64 z.natAbs h
  have hr : reachBytes = 140737488351232 := by decide
  simp only [intC, cellOK, ofZ, numOK, arrsOK, List.length_nil, List.length_cons]
  exact ⟨by omega, by decide, ⟨u32J_ok (limbs_ok _), by simp; decide, by omega, by omega⟩, by decide, by omega, trivial⟩

theorem okCs_of {cs : List Cell} (h : ∀ c ∈ cs, okC c) : okCs cs := okCs_mem.2 h

theorem intsJ_ok (l : List Int) (sh : List Int) (s : Nat) (hl : l.length ≤ 1000) (hs : sh.length ≤ 6) (h64 : s < 18446744073709551616) (hz : ∀ z ∈ l, z.natAbs < 2 ^ 64) : okA (.mk s sh (l.map intC)) := by
  simp only [okA]
  refine ⟨h64, by simp only [maxB]; omega, by simp only [maxB, List.length_map]; omega, okCs_of fun c hc => ?_⟩
  obtain ⟨z, hz', rfl⟩ := List.mem_map.1 hc
  exact intJ_ok z (hz z hz')

theorem refCat_a (A B : Arr) (first : Bool) (hA : okJ A) (hB : okJ B) : ACalls Try.prog 26 [.agg (arrV A), .agg (arrV B), .lit (.bool first)] (.tup [.agg (arrV (catP A B first).1), .lit (.int .i64 (catP A B first).2)]) := by
  have hB0 : maxB = 1000000000 := rfl
  have hl1 := hA.len
  have hl2 := hB.len
  have lA := intsA_len .i64 A.shape
  have lB := intsA_len .i64 B.shape
  have hx : atN A B first < axN A B := by unfold atN axN; split <;> omega
  have hll1 := longer_a A.shape.length B.shape.length (max A.shape.length B.shape.length : Nat) (by omega)
  have hll2 := longer_a 1 (max A.shape.length B.shape.length : Nat) (axN A B : Nat) (by unfold axN; omega)
  have hk : (first = false ∧ ((atN A B first : Nat) : Int) = ((axN A B : Nat) : Int) - 1) ∨ (first = true ∧ ((atN A B first : Nat) : Int) = 0) := by
    unfold atN; cases first
    · left; simp; omega
    · right; simp
  have h6 : axN A B ≤ 6 := by unfold axN; omega
  rcases cat_cases hA hB first with ⟨he, hn⟩ | ⟨s, t, al, bl, n1, n2, u, K, b1, b2, hr⟩
  · rw [he]
    have w1 := counted_a A B hl1 hl2 (axN A B) (atN A B first) rfl hx
    have w2 := counted_a B A hl2 hl1 (axN A B) (atN A B first) (axN_comm A B) hx
    cases h1 : widP A.shape B.shape (axN A B) (atN A B first) with
    | none =>
      have w1 := w1.2 h1
      clear w2 hn h1 he
      generalize axN A B = N at *
      generalize atN A B first = x at *
      refine acalls_of code_scrimref12_Catenate (by simp [fn_scrimref12_Catenate]) fun C hC => ?_
      rcases hk with ⟨rfl, hk⟩ | ⟨rfl, hk⟩
      all_goals
        rw [hk] at w1
        refine walk2 ?_
        exact fin
    | some p =>
      obtain ⟨s, al⟩ := p
      have h2 : widP B.shape A.shape (axN A B) (atN A B first) = none := by
        rcases hn with h | h
        · rw [h] at h1; cases h1
        · exact h
      have w1 := w1.1 s al h1
      have w2 := w2.2 h2
      clear hn h1 he h2
      generalize axN A B = N at *
      generalize atN A B first = x at *
      refine acalls_of code_scrimref12_Catenate (by simp [fn_scrimref12_Catenate]) fun C hC => ?_
      rcases hk with ⟨rfl, hk⟩ | ⟨rfl, hk⟩
      all_goals
        rw [hk] at w1 w2
        refine walk2 ?_
        exact fin
  · rcases hr with ⟨hw, he⟩ | ⟨hw, h0, he⟩ | ⟨hw, h0, he⟩
    · rw [he]
      have w1 := (counted_a A B hl1 hl2 (axN A B) (atN A B first) rfl hx).1 s al K.w1
      have w2 := (counted_a B A hl2 hl1 (axN A B) (atN A B first) (axN_comm A B) hx).1 t bl K.w2
      have hxs := (List.getElem?_eq_some_iff.1 K.sx).1
      have hxt := (List.getElem?_eq_some_iff.1 K.tx).1
      have hls := K.ls
      have hlt := K.lt
      have w3 := refWithout_a s (atN A B first) hxs (by omega)
      have w4 := refWithout_a t (atN A B first) hxt (by omega)
      have w5 := ints_a (wout s (atN A B first)) (wout t (atN A B first))
      rw [intsP_eq, decide_eq_false hw] at w5
      unfold wout at w5
      clear he hw K
      generalize axN A B = N at *
      generalize atN A B first = x at *
      generalize s.take x ++ s.drop (x + 1) = ws at w3 w5
      generalize t.take x ++ t.drop (x + 1) = wt at w4 w5
      refine acalls_of code_scrimref12_Catenate (by simp [fn_scrimref12_Catenate]) fun C hC => ?_
      rcases hk with ⟨rfl, hk⟩ | ⟨rfl, hk⟩
      all_goals
        rw [hk] at w1 w2 w3 w4
        refine walk2 ?_
        exact fin
    · rw [he]
      have w1 := (counted_a A B hl1 hl2 (axN A B) (atN A B first) rfl hx).1 s al K.w1
      have w2 := (counted_a B A hl2 hl1 (axN A B) (atN A B first) (axN_comm A B) hx).1 t bl K.w2
      have hxs := (List.getElem?_eq_some_iff.1 K.sx).1
      have hxt := (List.getElem?_eq_some_iff.1 K.tx).1
      have hls := K.ls
      have hlt := K.lt
      have w3 := refWithout_a s (atN A B first) hxs (by omega)
      have w4 := refWithout_a t (atN A B first) hxt (by omega)
      have w5 := ints_a (wout s (atN A B first)) (wout t (atN A B first))
      rw [intsP_eq, hw, decide_eq_true rfl] at w5
      unfold wout at w5
      rw [show s.take (atN A B first) ++ s.drop (atN A B first + 1) = t.take (atN A B first) ++ t.drop (atN A B first + 1) from hw] at w3
      have w6 := refWith_a s (atN A B first) ((n1 : Int) + n2) hxs (by omega)
      rw [← K.hu] at w6
      have w7 := rcount_a u
      rw [rcnt_eq] at w7
      have hsx : (intsA .i64 s)[((atN A B first : Nat) : Int).toNat]? = some [.lit (.int .i64 (n1 : Int))] := int_at K.sx
      have htx : (intsA .i64 t)[((atN A B first : Nat) : Int).toNat]? = some [.lit (.int .i64 (n2 : Int))] := int_at K.tx
      have lis := intsA_len .i64 s
      have lit := intsA_len .i64 t
      clear he hw K
      generalize axN A B = N at *
      generalize atN A B first = x at *
      generalize t.take x ++ t.drop (x + 1) = wt at w3 w4 w5
      generalize (cnt u).1 = T at *
      generalize (cnt u).2 = e at *
      refine acalls_of code_scrimref12_Catenate (by simp [fn_scrimref12_Catenate]) fun C hC => ?_
      rcases hk with ⟨rfl, hk⟩ | ⟨rfl, hk⟩
      all_goals
        rw [hk] at w1 w2 w3 w4 w6 hsx htx
        refine walk2 ?_
        exact fin
    · rw [he]
      exact refCat_ok hA hB K b1 b2 hw h0 _ rfl
end Go.Proofs.Ytfnilbkahkbljaa
namespace Go.Proofs.Ytfnilbkahkbljaa
set_option linter.unusedVariables false
open Go.RowKit

theorem okJ_of {A : Arr} {d : Nat} (hA : okA A) (r : rightA d A = true) : okJ A := ⟨hA, (right_shape r).1, (right_shape r).2.1⟩
theorem okJ_good {A : Arr} (hA : arrOK A) (h : goodA A = true) : okJ A := okJ_of (few_ok hA (good_few h)) (good_right h)

theorem awake12_a : ACalls Try.prog 24 [] (.lit (.bool true)) := by
  have c1 := r11Vector_a [1, 2] 0 (by simp [maxB]) (by intro z hz; simp at hz; omega)
  have c2 := alone_a 3 0 (by omega) (by omega)
  have k1 : okJ (.mk 0 [2] ([1, 2].map intC)) := ⟨intsJ_ok [1, 2] [2] 0 (by simp) (by simp) (by omega) (by intro z hz; simp at hz; omega), by decide, by rfl⟩
  have k2 : okJ (.mk 0 [] [intC 3]) := ⟨intsJ_ok [3] [] 0 (by simp) (by simp) (by omega) (by intro z hz; simp at hz; omega), by decide, by rfl⟩
  have c3 := cat_a _ _ false k1 k2
  have e : catP (.mk 0 [2] ([1, 2].map intC)) (.mk 0 [] [intC 3]) false = (.mk 0 [3] ([1, 2, 3].map intC), 0) := rfl
  rw [e] at c3
  have e2 : ((([1, 2] : List Int).length : Nat) : Int) = 2 := rfl
  rw [e2] at c1
  simp only at c3
  clear e k1 k2
  generalize hX : List.map intC [1, 2] = X at c1 c3
  generalize hY : List.map intC [1, 2, 3] = Y at c3
  clear hX
  refine acalls_of code_scrimlaw12_awake (by simp [fn_scrimlaw12_awake]) fun C hC => ?_
  refine walk2 ?_
  clear c1 c2 c3
  have c4 := r11Vector_a [1, 2, 3] 0 (by simp [maxB]) (by intro z hz; simp at hz; omega)
  have o3 : arrOK (.mk 0 [3] ([1, 2, 3].map intC)) := by
    refine ⟨by omega, fun z hz => by simp at hz; subst hz; decide, by simp [reachBytes], by simp [reachBytes], cellsOK_mem.2 fun c hc => ?_⟩
    obtain ⟨z, hz, rfl⟩ := List.mem_map.1 hc
    exact intJ_OK z (by simp at hz; omega)
  have c5 := same_a _ _ o3 o3
  rw [sameA_refl] at c5
  have e3 : ((([1, 2, 3] : List Int).length : Nat) : Int) = 3 := rfl
  rw [e3] at c4
  rw [hY] at c4 c5
  clear o3 hY
  refine walk2 ?_
  exact fin

theorem joinCatenates_core (A B : Arr) (first : Bool) (hA : arrOK A) (hB : arrOK B) (gA : goodA A = true) (gB : goodA B = true) (R : Arr) (e : Int) (hR : catP A B first = (R, e)) :
    ACalls Try.prog 4 [.agg (arrV A), .agg (arrV B), .lit (.bool first)] (.lit (.bool true)) := by
  have kA := okJ_good hA gA
  have kB := okJ_good hB gB
  have c0 := awake12_a
  have c1 := good_at A hA gA
  have c2 := good_at B hB gB
  have c3 := cat_a A B first kA kB
  have c4 := refCat_a A B first kA kB
  have oR := arrOK_cat kA kB hA hB first
  have rR := right_cat kA kB (good_right gA) (good_right gB) first
  rw [hR] at c3 c4 oR rR
  simp only at c3 c4 oR rR
  have c5 := same10_a R R e e oR oR
  rw [sameA_refl, decide_eq_true rfl, Bool.true_and] at c5
  by_cases he : e = 0
  · have c6 := right_at 8 R 8 rfl (by omega) oR (rR he)
    subst he
    clear hA hB gA gB kA kB oR rR hR
    refine acalls_of code_scrimlaw12_JoinCatenates (by simp [fn_scrimlaw12_JoinCatenates]) fun C hC => ?_
    refine walk2 ?_
    exact fin
  · clear hA hB gA gB kA kB oR rR hR
    refine acalls_of code_scrimlaw12_JoinCatenates (by simp [fn_scrimlaw12_JoinCatenates]) fun C hC => ?_
    refine walk2 ?_
    exact fin

theorem joinCatenates_a (A B : Arr) (first : Bool) (hA : arrOK A) (hB : arrOK B) :
    ACalls Try.prog 4 [.agg (arrV A), .agg (arrV B), .lit (.bool first)] (.lit (.bool true)) := by
  have c0 := awake12_a
  cases gA : goodA A
  · have c1 := good_at A hA gA
    refine acalls_of code_scrimlaw12_JoinCatenates (by simp [fn_scrimlaw12_JoinCatenates]) fun C hC => ?_
    refine walk2 ?_
    exact fin
  · cases gB : goodA B
    · have c1 := good_at A hA gA
      have c2 := good_at B hB gB
      refine acalls_of code_scrimlaw12_JoinCatenates (by simp [fn_scrimlaw12_JoinCatenates]) fun C hC => ?_
      refine walk2 ?_
      exact fin
    · exact joinCatenates_core A B first hA hB gA gB _ _ rfl
end Go.Proofs.Ytfnilbkahkbljaa
namespace Go.Proofs.Ytfnilbkahkbljaa
set_option linter.unusedVariables false
open Go.RowKit

theorem cat_first {A B : Arr} (hA : okJ A) (hB : okJ B) {n1 n2 : Nat} {ta tb : List Int} (eA : A.shape = (n1 : Int) :: ta) (eB : B.shape = (n2 : Int) :: tb) (hl : ta.length = tb.length) :
    catP A B true = if ta = tb then (if (cnt (((n1 + n2 : Nat) : Int) :: ta)).2 = 0 then (.mk (A.s ||| B.s) (((n1 + n2 : Nat) : Int) :: ta) (A.cells ++ B.cells), 0) else (.mk 0 [] [], (cnt (((n1 + n2 : Nat) : Int) :: ta)).2)) else (.mk 0 [] [], 4) := by
  have hax : A.shape.length = axN A B := by unfold axN; rw [eA, eB]; simp; omega
  have hbx : B.shape.length = axN A B := by unfold axN; rw [eA, eB]; simp; omega
  have w1 : widP A.shape B.shape (axN A B) (atN A B true) = some (A.shape, false) := by unfold widP; rw [if_pos hax]
  have w2 : widP B.shape A.shape (axN A B) (atN A B true) = some (B.shape, false) := by unfold widP; rw [if_pos hbx]
  have hx : atN A B true = 0 := rfl
  rcases cat_cases hA hB true with ⟨he, hn⟩ | ⟨s, t, al, bl, m1, m2, u, K, b1, b2, hr⟩
  · rw [w1, w2] at hn; rcases hn with h | h <;> cases h
  · have k1 := K.w1
    rw [w1] at k1
    simp only [Option.some.injEq, Prod.mk.injEq] at k1
    obtain ⟨rfl, rfl⟩ := k1
    have k2 := K.w2
    rw [w2] at k2
    simp only [Option.some.injEq, Prod.mk.injEq] at k2
    obtain ⟨rfl, rfl⟩ := k2
    rw [hx] at hr K
    have e1 : m1 = n1 := by have := K.sx; rw [eA] at this; simp at this; omega
    have e2 : m2 = n2 := by have := K.tx; rw [eB] at this; simp at this; omega
    subst e1; subst e2
    have hu : u = ((m1 + m2 : Nat) : Int) :: ta := by rw [K.hu, eA]; simp
    have hwa : wout A.shape 0 = ta := by rw [eA]; rfl
    have hwb : wout B.shape 0 = tb := by rw [eB]; rfl
    rw [hwa, hwb] at hr
    rcases hr with ⟨hw, he⟩ | ⟨hw, h0, he⟩ | ⟨hw, h0, he⟩
    · rw [if_neg hw]; exact he
    · rw [if_pos hw, if_neg (by rw [← hu]; exact h0), ← hu]; exact he
    · rw [if_pos hw, if_pos (by rw [← hu]; exact h0), ← hu, he]
      have ha1 : aheadN u 0 = 1 := rfl
      have pA := hA.prod
      have pB := hB.prod
      rw [eA, prodL_cons] at pA
      rw [eB, prodL_cons, ← hw] at pB
      have hd : u.drop (0 + 1) = ta := by rw [hu]; rfl
      have hz : u[0]? = some ((m1 + m2 : Nat) : Int) := by rw [hu]; rfl
      have hle : A.cells.length ≤ m1 * behindN u 0 ∧ B.cells.length ≤ m2 * behindN u 0 := by
        rcases geo h0 hz with ⟨_, _, g2, _⟩ | ⟨h1, _, _⟩
        · rw [hd] at g2
          rw [g2, ← Int.natCast_mul] at pA pB
          omega
        · rw [hu, List.mem_cons] at h1
          rcases h1 with h1 | h1
          · have z1 : m1 = 0 := by omega
            have z2 : m2 = 0 := by omega
            rw [z1, show ((0 : Nat) : Int) = 0 from rfl, Int.zero_mul] at pA
            rw [z2, show ((0 : Nat) : Int) = 0 from rfl, Int.zero_mul] at pB
            omega
          · rw [prodL_zero h1, Int.mul_zero] at pA pB
            omega
      have hge : m1 * behindN u 0 ≤ A.cells.length ∧ m2 * behindN u 0 ≤ B.cells.length := by
        obtain ⟨_, _, z3, z4, _⟩ := K.sizes (by rw [hwa, hwb]; exact hw) h0
        have z3 := z3 rfl
        have z4 := z4 rfl
        rw [ha1, Nat.one_mul] at z3 z4
        exact ⟨z3, z4⟩
      have st := catL_step (m1 * behindN u 0) (m2 * behindN u 0) false A.cells false B.cells 0 (fun _ => by omega) (fun _ => by omega)
      rw [Nat.zero_mul, Nat.zero_add] at st
      rw [ha1, ← st]
      have r1 : rowL false A.cells 0 (m1 * behindN u 0) = A.cells := by unfold rowL; rw [if_neg (by simp), Nat.zero_mul, List.drop_zero, List.take_of_length_le hle.1]
      have r2 : rowL false B.cells 0 (m2 * behindN u 0) = B.cells := by unfold rowL; rw [if_neg (by simp), Nat.zero_mul, List.drop_zero, List.take_of_length_le hle.2]
      rw [r1, r2]
      rfl

theorem okA_cat {A B : Arr} (hA : okJ A) (hB : okJ B) (first : Bool) (h : (catP A B first).2 = 0) : okJ (catP A B first).1 := by
  rcases cat_facts hA hB first with ⟨h1, _⟩ | ⟨_, h1, h2, h3, h4, h5⟩
  · exact absurd h h1
  · refine ⟨?_, h2, h3⟩
    have hle := (cnt_le (catP A B first).1.shape).2
    generalize catP A B first = R at *
    obtain ⟨⟨s, sh, cs⟩, e⟩ := R
    simp only [Arr.s, Arr.shape, Arr.cells] at *
    simp only [okA]
    have hB : maxB = 1000000000 := rfl
    refine ⟨by rw [h1]; exact or_lt _ _ hA.ok.parts.1 (by assumption : okJ B).ok.parts.1, by omega, by omega, okCs_of fun c hc => ?_⟩
    rcases h5 c hc with h | h
    · exact okCs_mem.1 hA.ok.parts.2.2.2 c h
    · exact okCs_mem.1 (by assumption : okJ B).ok.parts.2.2.2 c h

theorem shape_cons {A : Arr} (hA : okJ A) (h : A.shape.length ≠ 0) : ∃ (n : Nat) (t : List Int), A.shape = (n : Int) :: t := by
  cases e : A.shape with
  | nil => rw [e] at h; simp at h
  | cons z t =>
    have := hA.small z (by rw [e]; simp)
    exact ⟨z.toNat, t, by congr 1; omega⟩

/-- which two are put together first doesn't matter -/
theorem brackets {A B C : Arr} (hA : okJ A) (hB : okJ B) (hC : okJ C) (h : A.shape.length ≠ 0) (h1 : A.shape.length = B.shape.length) (h2 : A.shape.length = C.shape.length) (e1 : (catP A B true).2 = 0) (e2 : (catP B C true).2 = 0) :
    catP (catP A B true).1 C true = catP A (catP B C true).1 true := by
  obtain ⟨n1, ta, eA⟩ := shape_cons hA h
  obtain ⟨n2, tb, eB⟩ := shape_cons hB (by omega)
  obtain ⟨n3, tc, eC⟩ := shape_cons hC (by omega)
  have la : ta.length = tb.length := by rw [eA, eB] at h1; simpa using h1
  have lb : ta.length = tc.length := by rw [eA, eC] at h2; simpa using h2
  have c1 := cat_first hA hB eA eB la
  have c2 := cat_first hB hC eB eC (by omega)
  have k1 := okA_cat hA hB true e1
  have k2 := okA_cat hB hC true e2
  split at c1
  case isFalse => rw [c1] at e1; simp at e1
  rename_i hab
  split at c2
  case isFalse => rw [c2] at e2; simp at e2
  rename_i hbc
  split at c1
  case isFalse hne => rw [c1] at e1; exact absurd e1 hne
  split at c2
  case isFalse hne => rw [c2] at e2; exact absurd e2 hne
  subst hab; subst hbc
  rw [c1] at k1 ⊢
  rw [c2] at k2 ⊢
  rw [cat_first k1 hC rfl eC rfl, cat_first hA k2 eA rfl rfl]
  simp only [Arr.s, Arr.cells, Nat.add_assoc, Nat.or_assoc, List.append_assoc]

set_option maxHeartbeats 1000000 in
theorem joinBrackets_core (A B C : Arr) (hA : arrOK A) (hB : arrOK B) (hC : arrOK C) (gA : goodA A = true) (gB : goodA B = true) (gC : goodA C = true) (h : A.shape.length ≠ 0) (h1 : A.shape.length = B.shape.length) (h2 : A.shape.length = C.shape.length)
    (R1 R2 R3 : Arr) (e f g : Int) (hR1 : catP A B true = (R1, e)) (hR2 : catP B C true = (R2, f)) (hR3 : catP R1 C true = (R3, g)) :
    ACalls Try.prog 5 [.agg (arrV A), .agg (arrV B), .agg (arrV C)] (.lit (.bool true)) := by
  have kA := okJ_good hA gA
  have kB := okJ_good hB gB
  have kC := okJ_good hC gC
  have lA := intsA_len .i64 A.shape
  have lB := intsA_len .i64 B.shape
  have lC := intsA_len .i64 C.shape
  have h1' : (A.shape.length : Int) = B.shape.length := by omega
  have h2' : (A.shape.length : Int) = C.shape.length := by omega
  have h0' : ¬ (A.shape.length : Int) = 0 := by omega
  have c0 := awake12_a
  have g1 := good_at A hA gA
  have g2 := good_at B hB gB
  have g3 := good_at C hC gC
  have c1 := cat_a A B true kA kB
  have c2 := cat_a B C true kB kC
  rw [hR1] at c1
  rw [hR2] at c2
  simp only at c1 c2
  have l6 := kA.len
  by_cases he : e = 0
  · by_cases hf : f = 0
    · have k1 := okA_cat kA kB true (by rw [hR1]; exact he)
      have k2 := okA_cat kB kC true (by rw [hR2]; exact hf)
      have o1 := arrOK_cat kA kB hA hB true
      have hb := brackets kA kB kC h h1 h2 (by rw [hR1]; exact he) (by rw [hR2]; exact hf)
      rw [hR1] at k1 o1 hb
      rw [hR2] at k2 hb
      simp only at k1 k2 o1 hb
      have c3 := cat_a R1 C true k1 kC
      have c4 := cat_a A R2 true kA k2
      rw [← hb] at c4
      have o3 := arrOK_cat k1 kC o1 hC true
      rw [hR3] at c3 c4 o3
      simp only at c3 c4 o3
      have c5 := same_a R3 R3 o3 o3
      rw [sameA_refl] at c5
      subst he; subst hf
      clear hA hB hC gA gB gC kA kB kC k1 k2 o1 o3 hb hR1 hR2 hR3
      refine acalls_of code_scrimlaw12_JoinBrackets (by simp [fn_scrimlaw12_JoinBrackets]) fun C hC => ?_
      refine walk2 ?_
      exact fin
    · clear hA hB hC gA gB gC kA kB kC hR1 hR2 hR3
      subst he
      refine acalls_of code_scrimlaw12_JoinBrackets (by simp [fn_scrimlaw12_JoinBrackets]) fun C hC => ?_
      refine walk2 ?_
      exact fin
  · clear hA hB hC gA gB gC kA kB kC hR1 hR2 hR3
    refine acalls_of code_scrimlaw12_JoinBrackets (by simp [fn_scrimlaw12_JoinBrackets]) fun C hC => ?_
    refine walk2 ?_
    exact fin

theorem joinBrackets_a (A B C : Arr) (hA : arrOK A) (hB : arrOK B) (hC : arrOK C) :
    ACalls Try.prog 5 [.agg (arrV A), .agg (arrV B), .agg (arrV C)] (.lit (.bool true)) := by
  have hr : reachBytes = 140737488351232 := rfl
  have lA := intsA_len .i64 A.shape
  have lB := intsA_len .i64 B.shape
  have lC := intsA_len .i64 C.shape
  have c0 := awake12_a
  cases gA : goodA A
  · have g1 := good_at A hA gA
    refine acalls_of code_scrimlaw12_JoinBrackets (by simp [fn_scrimlaw12_JoinBrackets]) fun C hC => ?_
    refine walk2 ?_
    exact fin
  · cases gB : goodA B
    · have g1 := good_at A hA gA
      have g2 := good_at B hB gB
      refine acalls_of code_scrimlaw12_JoinBrackets (by simp [fn_scrimlaw12_JoinBrackets]) fun C hC => ?_
      refine walk2 ?_
      exact fin
    · cases gC : goodA C
      · have g1 := good_at A hA gA
        have g2 := good_at B hB gB
        have g3 := good_at C hC gC
        refine acalls_of code_scrimlaw12_JoinBrackets (by simp [fn_scrimlaw12_JoinBrackets]) fun C hC => ?_
        refine walk2 ?_
        exact fin
      · have g1 := good_at A hA gA
        have g2 := good_at B hB gB
        have g3 := good_at C hC gC
        by_cases h0 : A.shape.length = 0
        · have h0' : (A.shape.length : Int) = 0 := by omega
          refine acalls_of code_scrimlaw12_JoinBrackets (by simp [fn_scrimlaw12_JoinBrackets]) fun C hC => ?_
          refine walk2 ?_
          exact fin
        · have h0' : ¬ (A.shape.length : Int) = 0 := by omega
          by_cases h1 : A.shape.length = B.shape.length
          · have h1' : (A.shape.length : Int) = B.shape.length := by omega
            by_cases h2 : A.shape.length = C.shape.length
            · exact joinBrackets_core A B C hA hB hC gA gB gC h0 h1 h2 _ _ _ _ _ _ rfl rfl rfl
            · have h2' : ¬ (A.shape.length : Int) = C.shape.length := by omega
              refine acalls_of code_scrimlaw12_JoinBrackets (by simp [fn_scrimlaw12_JoinBrackets]) fun C hC => ?_
              refine walk2 ?_
              exact fin
          · have h1' : ¬ (A.shape.length : Int) = B.shape.length := by omega
            refine acalls_of code_scrimlaw12_JoinBrackets (by simp [fn_scrimlaw12_JoinBrackets]) fun C hC => ?_
            refine walk2 ?_
            exact fin
end Go.Proofs.Ytfnilbkahkbljaa
