/- The laws ViewLess and ViewCovers answer true. -/
import Derived.Test.YtkgnnnehmnoleaaRelabP
import Derived.Test.YtkgnnnehmnoleaaViewH
import Derived.Test.YtkgnnnehmnoleaaRefAl
namespace Go.Proofs.Ytkgnnnehmnoleaa
set_option linter.unusedVariables false
open Go.RowKit

theorem flows_or {s l o : Nat} (hs : s < 18446744073709551616) (hl : l < 18446744073709551616) : flowsN (s ||| l) o = (flowsN s o && flowsN l o) := by
  rw [Bool.eq_iff_iff, Bool.and_eq_true, flowsN_iff (or_lt s l hs hl), flowsN_iff hs, flowsN_iff hl]
  constructor
  · intro h
    exact ⟨fun i hi hb => h i hi (by rw [Nat.testBit_or, hb]; rfl), fun i hi hb => h i hi (by rw [Nat.testBit_or, hb]; simp)⟩
  · rintro ⟨h1, h2⟩ i hi hb
    rw [Nat.testBit_or, Bool.or_eq_true] at hb
    rcases hb with hb | hb
    · exact h1 i hi hb
    · exact h2 i hi hb
theorem flows_trans {s l o : Nat} (hs : s < 18446744073709551616) (hl : l < 18446744073709551616) (h1 : flowsN s l = true) (h2 : flowsN l o = true) : flowsN s o = true :=
  (flowsN_iff hs).2 fun i hi hb => (flowsN_iff hl).1 h2 i hi ((flowsN_iff hs).1 h1 i hi hb)
theorem flows_and {o p : Nat} (ho : o < 18446744073709551616) : flowsN (o &&& p) o = true :=
  (flowsN_iff (and_lt o p ho)).2 fun i hi hb => by rw [Nat.testBit_and, Bool.and_eq_true] at hb; exact hb.1

mutual
theorem alikeA_less {o m : Nat} (ho : o < 18446744073709551616) (hm : m < 18446744073709551616) (h : flowsN m o = true) : ∀ (A B : Arr), wfA A → wfA B → alikeA o A B = true → alikeA m A B = true
  | .mk s sh cs, .mk s2 sh2 cs2, hA, hB, e => by
    have ih := alikeCs_less ho hm h cs cs2 hA.2 hB.2
    simp only [alikeA] at e ⊢
    have t1 : flowsN s m = true → flowsN s o = true := fun k => flows_trans hA.1 hm k h
    have t2 : flowsN s2 m = true → flowsN s2 o = true := fun k => flows_trans hB.1 hm k h
    cases h1 : flowsN s o <;> cases h2 : flowsN s2 o <;> cases h3 : flowsN s m <;> cases h4 : flowsN s2 m <;> simp_all
theorem alikeCs_less {o m : Nat} (ho : o < 18446744073709551616) (hm : m < 18446744073709551616) (h : flowsN m o = true) : ∀ (A B : List Cell), wfCs A → wfCs B → alikeCs o A B = true → alikeCs m A B = true
  | [], [], _, _, _ => by simp [alikeCs]
  | [], _ :: _, _, _, e => by simp [alikeCs] at e
  | _ :: _, [], _, _, e => by simp [alikeCs] at e
  | c :: cs, d :: ds, hA, hB, e => by
    simp only [alikeCs, Bool.and_eq_true] at e ⊢
    exact ⟨alikeC_less ho hm h c d hA.1 hB.1 e.1, alikeCs_less ho hm h cs ds hA.2 hB.2 e.2⟩
theorem alikeC_less {o m : Nat} (ho : o < 18446744073709551616) (hm : m < 18446744073709551616) (h : flowsN m o = true) : ∀ (A B : Cell), wfC A → wfC B → alikeC o A B = true → alikeC m A B = true
  | .mk s k n c ins, .mk s2 k2 n2 c2 ins2, hA, hB, e => by
    have ih := alikeAs_less ho hm h ins ins2 hA.2 hB.2
    simp only [alikeC] at e ⊢
    have t1 : flowsN s m = true → flowsN s o = true := fun k => flows_trans hA.1 hm k h
    have t2 : flowsN s2 m = true → flowsN s2 o = true := fun k => flows_trans hB.1 hm k h
    cases h1 : flowsN s o <;> cases h2 : flowsN s2 o <;> cases h3 : flowsN s m <;> cases h4 : flowsN s2 m <;> simp_all
theorem alikeAs_less {o m : Nat} (ho : o < 18446744073709551616) (hm : m < 18446744073709551616) (h : flowsN m o = true) : ∀ (A B : List Arr), wfAs A → wfAs B → alikeAs o A B = true → alikeAs m A B = true
  | [], [], _, _, _ => by simp [alikeAs]
  | [], _ :: _, _, _, e => by simp [alikeAs] at e
  | _ :: _, [], _, _, e => by simp [alikeAs] at e
  | c :: cs, d :: ds, hA, hB, e => by
    simp only [alikeAs, Bool.and_eq_true] at e ⊢
    exact ⟨alikeA_less ho hm h c d hA.1 hB.1 e.1, alikeAs_less ho hm h cs ds hA.2 hB.2 e.2⟩
end

theorem flows_secret {s : Nat} (hs : s < 18446744073709551616) : flowsN s secretN = true :=
  (flowsN_iff hs).2 fun i hi _ => by
    have : secretN = 2 ^ 64 - 1 := by decide
    rw [this, Nat.testBit_two_pow_sub_one]
    simpa using hi

mutual
theorem hideA_all : ∀ (A : Arr), wfA A → hideA secretN A = A
  | .mk s sh cs, h => by simp only [hideA, if_pos (flows_secret h.1), hideCs_all cs h.2]
theorem hideCs_all : ∀ (A : List Cell), wfCs A → hideCs secretN A = A
  | [], _ => by simp [hideCs]
  | c :: cs, h => by simp only [hideCs, hideC_all c h.1, hideCs_all cs h.2]
theorem hideC_all : ∀ (A : Cell), wfC A → hideC secretN A = A
  | .mk s k n c ins, h => by simp only [hideC, if_pos (flows_secret h.1), hideAs_all ins h.2]
theorem hideAs_all : ∀ (A : List Arr), wfAs A → hideAs secretN A = A
  | [], _ => by simp [hideAs]
  | c :: cs, h => by simp only [hideAs, hideA_all c h.1, hideAs_all cs h.2]
end
theorem alikeA_all {A B : Arr} (hA : wfA A) (hB : wfA B) : alikeA secretN A B = sameA A B := by
  rw [alikeA_hide secretN secretN_lt A B hA hB, hideA_all A hA, hideA_all B hB]

mutual
theorem alikeA_cov {o l : Nat} (hl : l < 18446744073709551616) (h : flowsN l o = true) : ∀ (A B : Arr), wfA A → wfA B → alikeA o (relabA (covG l) A) (relabA (covG l) B) = true ∨ alikeA o A B = false
  | .mk s sh cs, .mk s2 sh2 cs2, hA, hB => by
    have ih := alikeCs_cov hl h cs cs2 hA.2 hB.2
    have e1 := flows_or (s := s) (l := l) (o := o) hA.1 hl
    have e2 := flows_or (s := s2) (l := l) (o := o) hB.1 hl
    rw [h, Bool.and_true] at e1 e2
    simp only [alikeA, relabA, covG, e1, e2]
    cases h1 : flowsN s o <;> cases h2 : flowsN s2 o <;> simp
    by_cases hs : s = s2
    · subst hs
      cases hi : intsP sh sh2
      · right; intro _ k; cases k
      · rcases ih with ih | ih
        · left; simp [ih]
        · right; simp [ih]
    · right; intro k; exact absurd k hs
theorem alikeCs_cov {o l : Nat} (hl : l < 18446744073709551616) (h : flowsN l o = true) : ∀ (A B : List Cell), wfCs A → wfCs B → alikeCs o (relabCs (covG l) A) (relabCs (covG l) B) = true ∨ alikeCs o A B = false
  | [], [], _, _ => by simp [alikeCs, relabCs]
  | [], _ :: _, _, _ => by simp [alikeCs]
  | _ :: _, [], _, _ => by simp [alikeCs]
  | c :: cs, d :: ds, hA, hB => by
    have h1 := alikeC_cov hl h c d hA.1 hB.1
    have h2 := alikeCs_cov hl h cs ds hA.2 hB.2
    simp only [alikeCs, relabCs]
    rcases h1 with h1 | h1 <;> rcases h2 with h2 | h2 <;> simp [h1, h2]
theorem alikeC_cov {o l : Nat} (hl : l < 18446744073709551616) (h : flowsN l o = true) : ∀ (A B : Cell), wfC A → wfC B → alikeC o (relabC (covG l) A) (relabC (covG l) B) = true ∨ alikeC o A B = false
  | .mk s k n c ins, .mk s2 k2 n2 c2 ins2, hA, hB => by
    have ih := alikeAs_cov hl h ins ins2 hA.2 hB.2
    have e1 := flows_or (s := s) (l := l) (o := o) hA.1 hl
    have e2 := flows_or (s := s2) (l := l) (o := o) hB.1 hl
    rw [h, Bool.and_true] at e1 e2
    simp only [alikeC, relabC, covG, e1, e2]
    cases h1 : flowsN s o <;> cases h2 : flowsN s2 o <;> simp
    by_cases hs : s = s2
    · subst hs
      rcases ih with ih | ih
      · by_cases hr : k = k2 ∧ c = c2 ∧ numP n n2 = true
        · left; simp [ih, hr]
        · right; intro _ k1 k3 k4; exact absurd ⟨k1, k3, k4⟩ hr
      · right; intro _ _ _ _; exact ih
    · right; intro k; exact absurd k hs
theorem alikeAs_cov {o l : Nat} (hl : l < 18446744073709551616) (h : flowsN l o = true) : ∀ (A B : List Arr), wfAs A → wfAs B → alikeAs o (relabAs (covG l) A) (relabAs (covG l) B) = true ∨ alikeAs o A B = false
  | [], [], _, _ => by simp [alikeAs, relabAs]
  | [], _ :: _, _, _ => by simp [alikeAs]
  | _ :: _, [], _, _ => by simp [alikeAs]
  | c :: cs, d :: ds, hA, hB => by
    have h1 := alikeA_cov hl h c d hA.1 hB.1
    have h2 := alikeAs_cov hl h cs ds hA.2 hB.2
    simp only [alikeAs, relabAs]
    rcases h1 with h1 | h1 <;> rcases h2 with h2 | h2 <;> simp [h1, h2]
end

mutual
theorem okA.relab {g : Nat → Nat} (hg : ∀ a, a < 18446744073709551616 → g a < 18446744073709551616) : ∀ {A : Arr}, okA A → okA (relabA g A)
  | .mk s sh cs, h => by
    simp only [okA] at h
    simp only [relabA, okA, relabCs_map, List.length_map]
    exact ⟨hg _ h.1, h.2.1, h.2.2.1, by rw [← relabCs_map]; exact okCs.relab hg h.2.2.2⟩
theorem okCs.relab {g : Nat → Nat} (hg : ∀ a, a < 18446744073709551616 → g a < 18446744073709551616) : ∀ {A : List Cell}, okCs A → okCs (relabCs g A)
  | [], h => by simp [relabCs, okCs]
  | c :: cs, h => by
    simp only [okCs] at h
    simp only [relabCs, okCs]
    exact ⟨okC.relab hg h.1, okCs.relab hg h.2⟩
theorem okC.relab {g : Nat → Nat} (hg : ∀ a, a < 18446744073709551616 → g a < 18446744073709551616) : ∀ {A : Cell}, okC A → okC (relabC g A)
  | .mk l k n c ins, h => by
    simp only [okC] at h
    simp only [relabC, okC, relabAs_map, List.length_map]
    exact ⟨hg _ h.1, h.2.1, h.2.2.1, h.2.2.2.1, by rw [← relabAs_map]; exact okAs.relab hg h.2.2.2.2⟩
theorem okAs.relab {g : Nat → Nat} (hg : ∀ a, a < 18446744073709551616 → g a < 18446744073709551616) : ∀ {A : List Arr}, okAs A → okAs (relabAs g A)
  | [], h => by simp [relabAs, okAs]
  | c :: cs, h => by
    simp only [okAs] at h
    simp only [relabAs, okAs]
    exact ⟨okA.relab hg h.1, okAs.relab hg h.2⟩
end

theorem alikeA_covno {o l : Nat} {A B : Arr} (hA : wfA A) (hB : wfA B) (hl : l < 18446744073709551616) (h : flowsN l o = false) : alikeA o (relabA (covG l) A) (relabA (covG l) B) = true := by
  obtain ⟨s, sh, cs⟩ := A
  obtain ⟨s2, sh2, cs2⟩ := B
  have e1 := flows_or (s := s) (l := l) (o := o) hA.1 hl
  have e2 := flows_or (s := s2) (l := l) (o := o) hB.1 hl
  rw [h, Bool.and_false] at e1 e2
  simp [alikeA, relabA, covG, e1, e2]

theorem viewLess_a (A B : Arr) (o p : Nat) (hA : arrOK A) (hB : arrOK B) (ho : o < 18446744073709551616) (hp : p < 18446744073709551616) : ACalls Try.prog 6 [.agg (arrV A), .agg (arrV B), labV o, labV p] (.lit (.bool true)) := by
  have aw := awake_a
  refine acalls_of code_scrimlaw09_ViewLess (by simp [fn_scrimlaw09_ViewLess]) fun C hC => ?_
  cases fA : fewP A
  · have c1 := few_at A hA fA
    refine walk2 ?_
    exact ⟨_, _, rfl, rfl, Sub.refl _⟩
  have c1 := few_at A hA fA
  cases fB : fewP B
  · have c2 := few_at B hB fB
    refine walk2 ?_
    exact ⟨_, _, rfl, rfl, Sub.refl _⟩
  have c2 := few_at B hB fB
  have kA := few_ok hA fA
  have kB := few_ok hB fB
  have c3 := alike_at A B secretN secretN_lt kA kB (alikeA_all kA.wf kB.wf)
  have c4 := arraySame_a A B
  have c7 := rmeet_a o p ho hp
  have c6 : alikeA o A B = true → ACalls Try.prog 16 [.agg (arrV A), .agg (arrV B), labV (o &&& p)] (.lit (.bool true)) := fun b1 => alike_at A B (o &&& p) (and_lt o p ho) kA kB (alikeA_less ho (and_lt o p ho) (flows_and ho) A B kA.wf kB.wf b1)
  cases hs : sameA A B <;> rw [hs] at c3 c4 <;> cases b1 : alikeA o A B
  · have c5 := alike_at A B o ho kA kB b1
    refine walk2 ?_
    exact ⟨_, _, rfl, rfl, Sub.refl _⟩
  · have c5 := alike_at A B o ho kA kB b1
    have c6 := c6 b1
    refine walk2 ?_
    exact ⟨_, _, rfl, rfl, Sub.refl _⟩
  · have c5 := alike_at A B o ho kA kB b1
    refine walk2 ?_
    exact ⟨_, _, rfl, rfl, Sub.refl _⟩
  · have c5 := alike_at A B o ho kA kB b1
    have c6 := c6 b1
    refine walk2 ?_
    exact ⟨_, _, rfl, rfl, Sub.refl _⟩

theorem viewCovers_a (A B : Arr) (o l : Nat) (hA : arrOK A) (hB : arrOK B) (ho : o < 18446744073709551616) (hl : l < 18446744073709551616) : ACalls Try.prog 7 [.agg (arrV A), .agg (arrV B), labV o, labV l] (.lit (.bool true)) := by
  have aw := awake_a
  refine acalls_of code_scrimlaw09_ViewCovers (by simp [fn_scrimlaw09_ViewCovers]) fun C hC => ?_
  cases fA : fewP A
  · have c1 := few_at A hA fA
    refine walk2 ?_
    exact ⟨_, _, rfl, rfl, Sub.refl _⟩
  have c1 := few_at A hA fA
  cases fB : fewP B
  · have c2 := few_at B hB fB
    refine walk2 ?_
    exact ⟨_, _, rfl, rfl, Sub.refl _⟩
  have c2 := few_at B hB fB
  have kA := few_ok hA fA
  have kB := few_ok hB fB
  have c3 := cover_a A l kA hl
  have c4 := cover_a B l kB hl
  have k1 := okA.relab (g := covG l) (fun a ha => or_lt a l ha hl) kA
  have k2 := okA.relab (g := covG l) (fun a ha => or_lt a l ha hl) kB
  cases hf : flowsN l o
  · have c5 := rflows_at l o hl ho hf
    have c6 := alike_at (relabA (covG l) A) (relabA (covG l) B) o ho k1 k2 (alikeA_covno kA.wf kB.wf hl hf)
    refine walk2 ?_
    exact ⟨_, _, rfl, rfl, Sub.refl _⟩
  · have c5 := rflows_at l o hl ho hf
    rcases alikeA_cov hl hf A B kA.wf kB.wf with h | h
    · have c6 := alike_at (relabA (covG l) A) (relabA (covG l) B) o ho k1 k2 h
      cases b1 : alikeA o A B
      · have c7 := alike_at A B o ho kA kB b1
        refine walk2 ?_
        exact ⟨_, _, rfl, rfl, Sub.refl _⟩
      · have c7 := alike_at A B o ho kA kB b1
        refine walk2 ?_
        exact ⟨_, _, rfl, rfl, Sub.refl _⟩
    · have c7 := alike_at A B o ho kA kB h
      refine walk2 ?_
      exact ⟨_, _, rfl, rfl, Sub.refl _⟩
end Go.Proofs.Ytkgnnnehmnoleaa
