/- Arrays put together: the program's Catenate. -/
import Derived.Test.YtfnilbkahkbljaaJoinP
namespace Go.Proofs.Ytfnilbkahkbljaa
set_option linter.unusedVariables false
open Go.RowKit

def wholeP (s t : List Int) (x : Nat) (z : Int) : List Int × Int := if wout s x = wout t x then (if (cnt (s.set x z)).2 = 0 then (s.set x z, 0) else ([], (cnt (s.set x z)).2)) else ([], 4)

set_option maxHeartbeats 1000000 in
theorem pwhole_a (s t : List Int) (cs ds : List Cell) (al bl : Bool) (x n1 n2 : Nat) (hs : s[x]? = some (n1 : Int)) (ht : t[x]? = some (n2 : Int)) (hl : s.length = t.length) (h6 : s.length ≤ 6) (b1 : n1 ≤ 2048) (b2 : n2 ≤ 2048) :
    ACalls Try.prog 68 [.agg (pairV s cs al t ds bl x)] (.tup [.sl 1 (intsA .i64 (wholeP s t x ((n1 : Int) + n2)).1), .lit (.int .i64 (wholeP s t x ((n1 : Int) + n2)).2)]) := by
  have hB : maxB = 1000000000 := rfl
  have ls := intsA_len .i64 s
  have lt := intsA_len .i64 t
  have lsx := (List.getElem?_eq_some_iff.1 hs).1
  have hsx : (intsA .i64 s)[((x : Nat) : Int).toNat]? = some [.lit (.int .i64 (n1 : Int))] := int_at hs
  have htx : (intsA .i64 t)[((x : Nat) : Int).toNat]? = some [.lit (.int .i64 (n2 : Int))] := int_at ht
  have c1 := shWith_a s x ((n1 : Int) + n2) lsx (by omega)
  have c2 := count_a (s.set x ((n1 : Int) + n2))
  have hw := wout_eq hl lsx
  unfold wholeP
  generalize s.set x ((n1 : Int) + n2) = u at c1 c2 ⊢
  refine acalls_of code_join_pair_whole (by simp [fn_join_pair_whole]) fun C hC => ?_
  unfold pairV
  refine walk2 ?_
  refine aw_loopB [1, 12, 13, 2, 3] [0] (fun k : Nat => [(14, .lit (.int .i64 k))]) (fun k => []) 1 (fun k => k ≤ s.length ∧ ∀ j, j < k → j ≠ x → s[j]? = t[j]?) (fun k => s.length - k) 0 ⟨Nat.zero_le _, fun j hj => absurd hj (Nat.not_lt_zero _)⟩ ?_
  rintro k ⟨hk, hE⟩
  dsimp only [List.cons_append, List.nil_append]
  by_cases hkl : k < s.length
  · obtain ⟨a, ha⟩ : ∃ a, s[k]? = some a := ⟨_, List.getElem?_eq_getElem hkl⟩
    obtain ⟨b, hb⟩ : ∃ b, t[k]? = some b := ⟨_, List.getElem?_eq_getElem (by omega)⟩
    have hak : (intsA .i64 s)[((k : Nat) : Int).toNat]? = some [.lit (.int .i64 a)] := int_at ha
    have hbk : (intsA .i64 t)[((k : Nat) : Int).toNat]? = some [.lit (.int .i64 b)] := int_at hb
    by_cases hkx : k = x
    · have hkx' : (k : Int) = x := by omega
      clear c1 c2
      refine walk2 ?_
      refine ⟨k + 1, by omega, ⟨by omega, fun j hj hjx => hE j (by omega) hjx⟩, wkR hC.m [] ?_⟩
      rfl
    · have hkx' : ¬ (k : Int) = x := by omega
      by_cases hab : a = b
      · clear c1 c2
        refine walk2 ?_
        refine ⟨k + 1, by omega, ⟨by omega, fun j hj hjx => ?_⟩, wkR hC.m [] ?_⟩
        · by_cases hjk : j = k
          · subst hjk; rw [ha, hb, hab]
          · exact hE j (by omega) hjx
        · rfl
      · have hne : ¬ wout s x = wout t x := fun h => by
          have := hw.1 h k hkx
          rw [ha, hb] at this
          exact hab (Option.some.inj this)
        rw [if_neg hne]
        clear c1 c2
        refine walk2 ?_
        exact fin
  · have he : wout s x = wout t x := hw.2 fun j hj => by
      by_cases hjl : j < s.length
      · exact hE j (by omega) hj
      · rw [List.getElem?_eq_none (by omega), List.getElem?_eq_none (by omega)]
    rw [if_pos he]
    by_cases h0 : (cnt u).2 = 0
    · rw [if_pos h0]
      rw [h0] at c2
      refine walk2 ?_
      exact fin
    · rw [if_neg h0]
      generalize (cnt u).2 = e at c2 h0 ⊢
      generalize (cnt u).1 = v at c2
      refine walk2 ?_
      exact fin
end Go.Proofs.Ytfnilbkahkbljaa
