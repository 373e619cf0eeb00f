/- The law JoinBrackets. -/
import Derived.Test.YtfnilbkahkbljaaJoinY
namespace Go.Proofs.Ytfnilbkahkbljaa
set_option linter.unusedVariables false
open Go.RowKit

theorem cat_first {A B : Arr} (hA : okJ A) (hB : okJ B) {n1 n2 : Nat} {ta tb : List Int} (eA : A.shape = (n1 : Int) :: ta) (eB : B.shape = (n2 : Int) :: tb) (hl : ta.length = tb.length) :
    catP A B true = if ta = tb then (if (cnt (((n1 + n2 : Nat) : Int) :: ta)).2 = 0 then (.mk (A.s ||| B.s) (((n1 + n2 : Nat) : Int) :: ta) (A.cells ++ B.cells), 0) else (.mk 0 [] [], (cnt (((n1 + n2 : Nat) : Int) :: ta)).2)) else (.mk 0 [] [], 4) := by
  have hax : A.shape.length = axN A B := by unfold axN; rw [eA, eB]; simp; omega
  have hbx : B.shape.length = axN A B := by unfold axN; rw [eA, eB]; simp; omega
  have w1 : widP A.shape B.shape (axN A B) (atN A B true) = some (A.shape, false) := by unfold widP; rw [if_pos hax]
  have w2 : widP B.shape A.shape (axN A B) (atN A B true) = some (B.shape, false) := by unfold widP; rw [if_pos hbx]
  have hx : atN A B true = 0 := rfl
  rcases cat_cases hA hB true with ⟨he, hn⟩ | ⟨s, t, al, bl, m1, m2, u, K, b1, b2, hr⟩
  · rw [w1, w2] at hn; rcases hn with h | h <;> cases h
  · have k1 := K.w1
    rw [w1] at k1
    simp only [Option.some.injEq, Prod.mk.injEq] at k1
    obtain ⟨rfl, rfl⟩ := k1
    have k2 := K.w2
    rw [w2] at k2
    simp only [Option.some.injEq, Prod.mk.injEq] at k2
    obtain ⟨rfl, rfl⟩ := k2
    rw [hx] at hr K
    have e1 : m1 = n1 := by have := K.sx; rw [eA] at this; simp at this; omega
    have e2 : m2 = n2 := by have := K.tx; rw [eB] at this; simp at this; omega
    subst e1; subst e2
    have hu : u = ((m1 + m2 : Nat) : Int) :: ta := by rw [K.hu, eA]; simp
    have hwa : wout A.shape 0 = ta := by rw [eA]; rfl
    have hwb : wout B.shape 0 = tb := by rw [eB]; rfl
    rw [hwa, hwb] at hr
    rcases hr with ⟨hw, he⟩ | ⟨hw, h0, he⟩ | ⟨hw, h0, he⟩
    · rw [if_neg hw]; exact he
    · rw [if_pos hw, if_neg (by rw [← hu]; exact h0), ← hu]; exact he
    · rw [if_pos hw, if_pos (by rw [← hu]; exact h0), ← hu, he]
      have ha1 : aheadN u 0 = 1 := rfl
      have pA := hA.prod
      have pB := hB.prod
      rw [eA, prodL_cons] at pA
      rw [eB, prodL_cons, ← hw] at pB
      have hd : u.drop (0 + 1) = ta := by rw [hu]; rfl
      have hz : u[0]? = some ((m1 + m2 : Nat) : Int) := by rw [hu]; rfl
      have hle : A.cells.length ≤ m1 * behindN u 0 ∧ B.cells.length ≤ m2 * behindN u 0 := by
        rcases geo h0 hz with ⟨_, _, g2, _⟩ | ⟨h1, _, _⟩
        · rw [hd] at g2
          rw [g2, ← Int.natCast_mul] at pA pB
          omega
        · rw [hu, List.mem_cons] at h1
          rcases h1 with h1 | h1
          · have z1 : m1 = 0 := by omega
            have z2 : m2 = 0 := by omega
            rw [z1, show ((0 : Nat) : Int) = 0 from rfl, Int.zero_mul] at pA
            rw [z2, show ((0 : Nat) : Int) = 0 from rfl, Int.zero_mul] at pB
            omega
          · rw [prodL_zero h1, Int.mul_zero] at pA pB
            omega
      have hge : m1 * behindN u 0 ≤ A.cells.length ∧ m2 * behindN u 0 ≤ B.cells.length := by
        obtain ⟨_, _, z3, z4, _⟩ := K.sizes (by rw [hwa, hwb]; exact hw) h0
        have z3 := z3 rfl
        have z4 := z4 rfl
        rw [ha1, Nat.one_mul] at z3 z4
        exact ⟨z3, z4⟩
      have st := catL_step (m1 * behindN u 0) (m2 * behindN u 0) false A.cells false B.cells 0 (fun _ => by omega) (fun _ => by omega)
      rw [Nat.zero_mul, Nat.zero_add] at st
      rw [ha1, ← st]
      have r1 : rowL false A.cells 0 (m1 * behindN u 0) = A.cells := by unfold rowL; rw [if_neg (by simp), Nat.zero_mul, List.drop_zero, List.take_of_length_le hle.1]
      have r2 : rowL false B.cells 0 (m2 * behindN u 0) = B.cells := by unfold rowL; rw [if_neg (by simp), Nat.zero_mul, List.drop_zero, List.take_of_length_le hle.2]
      rw [r1, r2]
      rfl

theorem okA_cat {A B : Arr} (hA : okJ A) (hB : okJ B) (first : Bool) (h : (catP A B first).2 = 0) : okJ (catP A B first).1 := by
  rcases cat_facts hA hB first with ⟨h1, _⟩ | ⟨_, h1, h2, h3, h4, h5⟩
  · exact absurd h h1
  · refine ⟨?_, h2, h3⟩
    have hle := (cnt_le (catP A B first).1.shape).2
    generalize catP A B first = R at *
    obtain ⟨⟨s, sh, cs⟩, e⟩ := R
    simp only [Arr.s, Arr.shape, Arr.cells] at *
    simp only [okA]
    have hB : maxB = 1000000000 := rfl
    refine ⟨by rw [h1]; exact or_lt _ _ hA.ok.parts.1 (by assumption : okJ B).ok.parts.1, by omega, by omega, okCs_of fun c hc => ?_⟩
    rcases h5 c hc with h | h
    · exact okCs_mem.1 hA.ok.parts.2.2.2 c h
    · exact okCs_mem.1 (by assumption : okJ B).ok.parts.2.2.2 c h

theorem shape_cons {A : Arr} (hA : okJ A) (h : A.shape.length ≠ 0) : ∃ (n : Nat) (t : List Int), A.shape = (n : Int) :: t := by
  cases e : A.shape with
  | nil => rw [e] at h; simp at h
  | cons z t =>
    have := hA.small z (by rw [e]; simp)
    exact ⟨z.toNat, t, by congr 1; omega⟩

/-- which two are put together first doesn't matter -/
theorem brackets {A B C : Arr} (hA : okJ A) (hB : okJ B) (hC : okJ C) (h : A.shape.length ≠ 0) (h1 : A.shape.length = B.shape.length) (h2 : A.shape.length = C.shape.length) (e1 : (catP A B true).2 = 0) (e2 : (catP B C true).2 = 0) :
    catP (catP A B true).1 C true = catP A (catP B C true).1 true := by
  obtain ⟨n1, ta, eA⟩ := shape_cons hA h
  obtain ⟨n2, tb, eB⟩ := shape_cons hB (by omega)
  obtain ⟨n3, tc, eC⟩ := shape_cons hC (by omega)
  have la : ta.length = tb.length := by rw [eA, eB] at h1; simpa using h1
  have lb : ta.length = tc.length := by rw [eA, eC] at h2; simpa using h2
  have c1 := cat_first hA hB eA eB la
  have c2 := cat_first hB hC eB eC (by omega)
  have k1 := okA_cat hA hB true e1
  have k2 := okA_cat hB hC true e2
  split at c1
  case isFalse => rw [c1] at e1; simp at e1
  rename_i hab
  split at c2
  case isFalse => rw [c2] at e2; simp at e2
  rename_i hbc
  split at c1
  case isFalse hne => rw [c1] at e1; exact absurd e1 hne
  split at c2
  case isFalse hne => rw [c2] at e2; exact absurd e2 hne
  subst hab; subst hbc
  rw [c1] at k1 ⊢
  rw [c2] at k2 ⊢
  rw [cat_first k1 hC rfl eC rfl, cat_first hA k2 eA rfl rfl]
  simp only [Arr.s, Arr.cells, Nat.add_assoc, Nat.or_assoc, List.append_assoc]

set_option maxHeartbeats 1000000 in
theorem joinBrackets_core (A B C : Arr) (hA : arrOK A) (hB : arrOK B) (hC : arrOK C) (gA : goodA A = true) (gB : goodA B = true) (gC : goodA C = true) (h : A.shape.length ≠ 0) (h1 : A.shape.length = B.shape.length) (h2 : A.shape.length = C.shape.length)
    (R1 R2 R3 : Arr) (e f g : Int) (hR1 : catP A B true = (R1, e)) (hR2 : catP B C true = (R2, f)) (hR3 : catP R1 C true = (R3, g)) :
    ACalls Try.prog 5 [.agg (arrV A), .agg (arrV B), .agg (arrV C)] (.lit (.bool true)) := by
  have kA := okJ_good hA gA
  have kB := okJ_good hB gB
  have kC := okJ_good hC gC
  have lA := intsA_len .i64 A.shape
  have lB := intsA_len .i64 B.shape
  have lC := intsA_len .i64 C.shape
  have h1' : (A.shape.length : Int) = B.shape.length := by omega
  have h2' : (A.shape.length : Int) = C.shape.length := by omega
  have h0' : ¬ (A.shape.length : Int) = 0 := by omega
  have c0 := awake12_a
  have g1 := good_at A hA gA
  have g2 := good_at B hB gB
  have g3 := good_at C hC gC
  have c1 := cat_a A B true kA kB
  have c2 := cat_a B C true kB kC
  rw [hR1] at c1
  rw [hR2] at c2
  simp only at c1 c2
  have l6 := kA.len
  by_cases he : e = 0
  · by_cases hf : f = 0
    · have k1 := okA_cat kA kB true (by rw [hR1]; exact he)
      have k2 := okA_cat kB kC true (by rw [hR2]; exact hf)
      have o1 := arrOK_cat kA kB hA hB true
      have hb := brackets kA kB kC h h1 h2 (by rw [hR1]; exact he) (by rw [hR2]; exact hf)
      rw [hR1] at k1 o1 hb
      rw [hR2] at k2 hb
      simp only at k1 k2 o1 hb
      have c3 := cat_a R1 C true k1 kC
      have c4 := cat_a A R2 true kA k2
      rw [← hb] at c4
      have o3 := arrOK_cat k1 kC o1 hC true
      rw [hR3] at c3 c4 o3
      simp only at c3 c4 o3
      have c5 := same_a R3 R3 o3 o3
      rw [sameA_refl] at c5
      subst he; subst hf
      clear hA hB hC gA gB gC kA kB kC k1 k2 o1 o3 hb hR1 hR2 hR3
      refine acalls_of code_scrimlaw12_JoinBrackets (by simp [fn_scrimlaw12_JoinBrackets]) fun C hC => ?_
      refine walk2 ?_
      exact fin
    · clear hA hB hC gA gB gC kA kB kC hR1 hR2 hR3
      subst he
      refine acalls_of code_scrimlaw12_JoinBrackets (by simp [fn_scrimlaw12_JoinBrackets]) fun C hC => ?_
      refine walk2 ?_
      exact fin
  · clear hA hB hC gA gB gC kA kB kC hR1 hR2 hR3
    refine acalls_of code_scrimlaw12_JoinBrackets (by simp [fn_scrimlaw12_JoinBrackets]) fun C hC => ?_
    refine walk2 ?_
    exact fin

theorem joinBrackets_a (A B C : Arr) (hA : arrOK A) (hB : arrOK B) (hC : arrOK C) :
    ACalls Try.prog 5 [.agg (arrV A), .agg (arrV B), .agg (arrV C)] (.lit (.bool true)) := by
  have hr : reachBytes = 140737488351232 := rfl
  have lA := intsA_len .i64 A.shape
  have lB := intsA_len .i64 B.shape
  have lC := intsA_len .i64 C.shape
  have c0 := awake12_a
  cases gA : goodA A
  · have g1 := good_at A hA gA
    refine acalls_of code_scrimlaw12_JoinBrackets (by simp [fn_scrimlaw12_JoinBrackets]) fun C hC => ?_
    refine walk2 ?_
    exact fin
  · cases gB : goodA B
    · have g1 := good_at A hA gA
      have g2 := good_at B hB gB
      refine acalls_of code_scrimlaw12_JoinBrackets (by simp [fn_scrimlaw12_JoinBrackets]) fun C hC => ?_
      refine walk2 ?_
      exact fin
    · cases gC : goodA C
      · have g1 := good_at A hA gA
        have g2 := good_at B hB gB
        have g3 := good_at C hC gC
        refine acalls_of code_scrimlaw12_JoinBrackets (by simp [fn_scrimlaw12_JoinBrackets]) fun C hC => ?_
        refine walk2 ?_
        exact fin
      · have g1 := good_at A hA gA
        have g2 := good_at B hB gB
        have g3 := good_at C hC gC
        by_cases h0 : A.shape.length = 0
        · have h0' : (A.shape.length : Int) = 0 := by omega
          refine acalls_of code_scrimlaw12_JoinBrackets (by simp [fn_scrimlaw12_JoinBrackets]) fun C hC => ?_
          refine walk2 ?_
          exact fin
        · have h0' : ¬ (A.shape.length : Int) = 0 := by omega
          by_cases h1 : A.shape.length = B.shape.length
          · have h1' : (A.shape.length : Int) = B.shape.length := by omega
            by_cases h2 : A.shape.length = C.shape.length
            · exact joinBrackets_core A B C hA hB hC gA gB gC h0 h1 h2 _ _ _ _ _ _ rfl rfl rfl
            · have h2' : ¬ (A.shape.length : Int) = C.shape.length := by omega
              refine acalls_of code_scrimlaw12_JoinBrackets (by simp [fn_scrimlaw12_JoinBrackets]) fun C hC => ?_
              refine walk2 ?_
              exact fin
          · have h1' : ¬ (A.shape.length : Int) = B.shape.length := by omega
            refine acalls_of code_scrimlaw12_JoinBrackets (by simp [fn_scrimlaw12_JoinBrackets]) fun C hC => ?_
            refine walk2 ?_
            exact fin
end Go.Proofs.Ytfnilbkahkbljaa
