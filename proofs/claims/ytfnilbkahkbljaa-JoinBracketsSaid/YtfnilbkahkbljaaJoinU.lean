/- Arrays put together: the program's Catenate answers catP. -/
import Derived.Test.YtfnilbkahkbljaaJoinT
namespace Go.Proofs.Ytfnilbkahkbljaa
set_option linter.unusedVariables false
open Go.RowKit

theorem Cat.sizes {A B : Arr} {first : Bool} {s t : List Int} {al bl : Bool} {x n1 n2 : Nat} {u : List Int} (K : Cat A B first s t al bl x n1 n2 u) (hw : wout s x = wout t x) (hu : (cnt u).2 = 0) :
    u[x]? = some ((n1 + n2 : Nat) : Int) ∧ (cnt u).1 = ((aheadN u x * (n1 * behindN u x + n2 * behindN u x) : Nat) : Int) ∧ (al = false → aheadN u x * (n1 * behindN u x) ≤ A.cells.length) ∧ (bl = false → aheadN u x * (n2 * behindN u x) ≤ B.cells.length) ∧
    u.take x = s.take x ∧ u.drop (x + 1) = s.drop (x + 1) ∧ t.take x = s.take x ∧ t.drop (x + 1) = s.drop (x + 1) := by
  have hxs := (List.getElem?_eq_some_iff.1 K.sx).1
  have hxt := (List.getElem?_eq_some_iff.1 K.tx).1
  have hux : u[x]? = some ((n1 + n2 : Nat) : Int) := by rw [K.hu, List.getElem?_set_self hxs]; simp
  have hut : u.take x = s.take x := by rw [K.hu, List.take_set_of_le (Nat.le_refl x)]
  have hud : u.drop (x + 1) = s.drop (x + 1) := by rw [K.hu, List.drop_set_of_lt (Nat.lt_succ_self x)]
  have hwl : t.take x = s.take x ∧ t.drop (x + 1) = s.drop (x + 1) := by
    unfold wout at hw
    have := List.append_inj hw (by simp; omega)
    exact ⟨this.1.symm, this.2.symm⟩
  have hs := split_at K.sx
  have ht := split_at K.tx
  have es : prodL s = prodL (u.take x) * (n1 * prodL (u.drop (x + 1))) := by
    conv => lhs; rw [hs]
    rw [prodL_append, prodL_cons, hut, hud]
  have et : prodL t = prodL (u.take x) * (n2 * prodL (u.drop (x + 1))) := by
    conv => lhs; rw [ht]
    rw [prodL_append, prodL_cons, hut, hud, hwl.1, hwl.2]
  refine ⟨hux, ?_, fun h => ?_, fun h => ?_, hut, hud, hwl.1, hwl.2⟩
  · rcases geo hu hux with ⟨_, _, _, h⟩ | ⟨_, h, hz⟩
    · rw [h, Nat.add_mul]
    · rw [h]
      rcases hz with hz | hz | hz
      · rw [hz, Nat.zero_mul]; rfl
      · have h1 : n1 = 0 := by omega
        have h2 : n2 = 0 := by omega
        rw [h1, h2]; simp
      · rw [hz]; simp
  · have hp := (K.al0 h).2
    rcases geo hu hux with ⟨_, g1, g2, _⟩ | ⟨_, _, hz⟩
    · rw [es, g1, g2, ← Int.natCast_mul, ← Int.natCast_mul] at hp
      omega
    · rcases hz with hz | hz | hz
      · rw [hz, Nat.zero_mul]; exact Nat.zero_le _
      · have h1 : n1 = 0 := by omega
        rw [h1]; simp
      · rw [hz]; simp
  · have hp := (K.bl0 h).2
    rcases geo hu hux with ⟨_, g1, g2, _⟩ | ⟨_, _, hz⟩
    · rw [et, g1, g2, ← Int.natCast_mul, ← Int.natCast_mul] at hp
      omega
    · rcases hz with hz | hz | hz
      · rw [hz, Nat.zero_mul]; exact Nat.zero_le _
      · have h1 : n2 = 0 := by omega
        rw [h1]; simp
      · rw [hz]; simp

set_option maxHeartbeats 1000000 in
theorem cat_a (A B : Arr) (first : Bool) (hA : okJ A) (hB : okJ B) : ACalls Try.prog 25 [.agg (arrV A), .agg (arrV B), .lit (.bool first)] (.tup [.agg (arrV (catP A B first).1), .lit (.int .i64 (catP A B first).2)]) := by
  have c1 := fit_a A B first hA.len hB.len
  rcases cat_cases hA hB first with ⟨he, hn⟩ | ⟨s, t, al, bl, n1, n2, u, K, b1, b2, hr⟩
  · have c1' : ACalls Try.prog 67 [.agg (arrV A), .agg (arrV B), .lit (.bool first)] (.tup [zPair, .lit (.int .i64 5)]) := by
      rcases hn with h | h
      · rw [h] at c1; exact c1
      · rw [h] at c1
        split at c1
        · rename_i h1 h2; cases h2
        · exact c1
    rw [he]
    unfold zPair at c1'
    clear c1
    refine acalls_defer code_join_Catenate (by simp [fn_join_Catenate]) idle_join_Catenate fun C hC => ?_
    refine walk2 ?_
    intro ds
    refine walk2 ?_
    exact fin
  · rw [K.w1, K.w2] at c1
    simp only at c1
    generalize hxe : atN A B first = x at *
    have c2 := pwhole_a s t A.cells B.cells al bl x n1 n2 K.sx K.tx (by rw [K.ls, K.lt]) (by rw [K.ls]; exact K.l6) b1 b2
    unfold wholeP at c2
    rw [← K.hu] at c2
    rcases hr with ⟨hw, he⟩ | ⟨hw, h0, he⟩ | ⟨hw, h0, he⟩
    · rw [he]
      rw [if_neg hw] at c2
      unfold pairV at c1 c2
      refine acalls_defer code_join_Catenate (by simp [fn_join_Catenate]) idle_join_Catenate fun C hC => ?_
      refine walk2 ?_
      intro ds
      refine walk2 ?_
      exact fin
    · rw [he]
      rw [if_pos hw, if_neg h0] at c2
      unfold pairV at c1 c2
      generalize (cnt u).2 = e at c2 h0 ⊢
      refine acalls_defer code_join_Catenate (by simp [fn_join_Catenate]) idle_join_Catenate fun C hC => ?_
      refine walk2 ?_
      intro ds
      refine walk2 ?_
      exact fin
    · rw [he]
      rw [if_pos hw, if_pos h0] at c2
      obtain ⟨z1, z2, z3, z4, z5, z6, z7, z8⟩ := K.sizes hw h0
      obtain ⟨a1, a2, a3, a4⟩ := ahead_eq x (cnt_small h0)
      have k1 := hA.cells
      have k2 := hB.cells
      have c3 := merge_a s t u A.cells B.cells al bl x n1 n2 (aheadN u x) (behindN u x) K.sx K.tx h0 z1 a1 a3 a2 a4 b1 b2 (fun h => by have := (K.al1 h).2; omega) (fun h => by have := (K.bl1 h).2; omega) z3 z4 (by omega) (by omega)
      have c4 := join_a A.s B.s hA.ok.parts.1 hB.ok.parts.1
      unfold pairV at c1 c2 c3
      generalize catL (n1 * behindN u x) (n2 * behindN u x) al A.cells bl B.cells (aheadN u x * (n1 * behindN u x + n2 * behindN u x)) = R at c3 ⊢
      refine acalls_defer code_join_Catenate (by simp [fn_join_Catenate]) idle_join_Catenate fun C hC => ?_
      refine walk2 ?_
      intro ds
      refine walk2 ?_
      exact fin
end Go.Proofs.Ytfnilbkahkbljaa
