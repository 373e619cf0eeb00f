/- Lines woven: the program's. -/
import Derived.Test.YtfnilbkahkbljaaOperW
namespace Go.Proofs.Ytfnilbkahkbljaa
set_option linter.unusedVariables false
open Go.RowKit

theorem operWeave_nil (s : Nat) (first : Bool) (c : Cell) : ACalls Try.prog 21 [labV s, .sl 1 (intsA .i64 []), .lit (.bool first), .sl 1 ([[c]].map lineV)] (.agg (arrV (.mk s [] [c]))) := by
  have hX0 : ([[c]].map lineV)[(0 : Int).toNat]? = some [.sl 7 ([c].map cellR)] := rfl
  have hX1 : (([[c]].map lineV).length : Int) = 1 := rfl
  have hll : (([c].map cellR).length : Int) = 1 := rfl
  generalize [[c]].map lineV = X at hX0 hX1 ⊢
  have c1 := count_a []
  rw [show cnt [] = (1, 0) from rfl] at c1
  have c2 := cloneInt_a (intsA .i64 []) (by simp [intsA])
  refine acalls_of code_oper_Weave (by simp [fn_oper_Weave]) fun C hC => ?_
  refine walk2 ?_
  refine aw_reg ?_
  refine rrun2 ?_
  refine r_copy ?_ ?_
  · show 1 ≤ 1
    omega
  refine rrun2 ?_
  refine rg_nil ⟨rfl, ?_⟩
  refine walk2 ?_
  exact fin

theorem operWeave_zero (s : Nat) (sh : List Int) (first : Bool) (X : List (List AV)) (hs : 0 < sh.length) (h1 : (cnt sh).2 = 0) (h0 : (cnt sh).1 = 0) (he : (cnt (restP sh (axisN sh first))).2 ≠ 0) : ACalls Try.prog 21 [labV s, .sl 1 (intsA .i64 sh), .lit (.bool first), .sl 1 X] (.agg (arrV (.mk s sh []))) := by
  have hB : maxB = 1000000000 := rfl
  have lsh := intsA_len .i64 sh
  have hl6 := cnt_len h1
  have c0 := along_err sh first hs (by omega) he
  have c1 := count_a sh
  rw [h1, h0] at c1
  have c2 := cloneInt_a (intsA .i64 sh) (by omega)
  refine acalls_of code_oper_Weave (by simp [fn_oper_Weave]) fun C hC => ?_
  refine walk2 ?_
  exact fin

set_option maxHeartbeats 1000000 in
theorem operWeave_ok (s : Nat) (sh : List Int) (cs : List Cell) (first : Bool) (N L B : Nat) (hs : 0 < sh.length) (h1 : (cnt sh).2 = 0) (hc : (cnt sh).1 = cs.length) (rest : List Int)
    (c0 : ACalls Try.prog 56 [.sl 1 (intsA .i64 sh), .lit (.bool first)] (.tup [.sl 1 (intsA .i64 rest), .lit (.int .i64 N), .lit (.int .i64 L), .lit (.int .i64 B), .lit (.bool true)]))
    (hN : N * L * B = cs.length) (hcl : cs.length ≤ 5000) (hM : N * B ≤ 5000) (hbL : L ≤ 5000) (hbN : N ≤ 5000) (hbB : B ≤ 5000) :
    ACalls Try.prog 21 [labV s, .sl 1 (intsA .i64 sh), .lit (.bool first), .sl 1 ((linesQ cs L B (N * B)).map lineV)] (.agg (arrV (.mk s sh cs))) := by
  have hB : maxB = 1000000000 := rfl
  have lsh := intsA_len .i64 sh
  have hl6 := cnt_len h1
  have c1 := count_a sh
  rw [h1, hc] at c1
  have c2 := cloneInt_a (intsA .i64 sh) (by omega)
  have hX := linesQ_len cs L B (N * B)
  have hm1 : -9223372036854775808 ≤ (N : Int) * B ∧ (N : Int) * B ≤ 9223372036854775807 := by
    rw [← Int.natCast_mul]; generalize N * B = q at hM ⊢; omega
  have hXI : (((linesQ cs L B (N * B)).map lineV).length : Int) = (N : Int) * B := by rw [List.length_map, hX, Int.natCast_mul]
  have hXN : ((linesQ cs L B (N * B)).map lineV).length = N * B := by rw [List.length_map, hX]
  have hXat : ∀ q, q < N * B → (linesQ cs L B (N * B))[q]? = some (lineAt cs L B q) := fun q hq => linesQ_at cs L B (N * B) q hq
  generalize linesQ cs L B (N * B) = X at hX hXI hXN hXat ⊢
  have e0 := wvRow_none (cs := cs) (f := fillB L B 0 0) (fun p _ => by simp [fillB])
  refine acalls_of code_oper_Weave (by simp [fn_oper_Weave]) fun C hC => ?_
  refine walk2 ?_
  refine aw_loopB [3, 8, 11, 14, 15, 64] [0, 2] (fun i : Nat => [(65, .lit (.int .i64 i))]) (fun i => [(1, some ⟨true, false, 76, 7, wvRow cs (fillB L B i 0)⟩)]) 3
    (fun i => i ≤ N * B) (fun i => N * B - i) 0 (Nat.zero_le _) ?_ (hh := by rw [← e0]; rfl)
  rintro i hi
  dsimp only [List.cons_append, List.nil_append]
  by_cases hil : i < N * B
  · have hBp : 0 < B := by
      rcases Nat.eq_zero_or_pos B with e | e
      · subst e; omega
      · exact e
    have hline := hXat i hil
    have hlk : (X.map lineV)[((i : Nat) : Int).toNat]? = some [.sl 7 ((lineAt cs L B i).map cellR)] := by rw [Int.toNat_natCast]; simp [hline, lineV]
    have hll : (((lineAt cs L B i).map cellR).length : Int) = L := by simp [lineAt_len]
    have hlat : ∀ n, n < L → ∀ c, cs[(i / B * L + n) * B + i % B]? = some c → (lineAt cs L B i)[n]? = some c := fun n hn c hc => by
      simp only [lineAt, List.getElem?_map, List.getElem?_range hn, Option.map_some, List.getD, hc, Option.getD_some]
    have hrem : 0 ≤ (i : Int) % B ∧ (i : Int) % B ≤ 5000 := by
      have := Nat.mod_lt i hBp
      rw [← Int.natCast_emod]; omega
    have hiN : i / B < N := by rw [Nat.div_lt_iff_lt_mul hBp]; exact hil
    have hdl : i / B * L * B ≤ cs.length := by
      rw [← hN]; exact Nat.mul_le_mul_right _ (Nat.mul_le_mul_right _ (Nat.le_of_lt hiN))
    have hdl1 : i / B * L ≤ 5000 * 5000 := Nat.mul_le_mul (by omega) hbL
    have hq0 : (i : Int) / B = ((i / B : Nat) : Int) := (Int.natCast_ediv i B).symm
    have hm2 : -9223372036854775808 ≤ (i : Int) / B * L ∧ (i : Int) / B * L ≤ 9223372036854775807 := by
      rw [hq0, ← Int.natCast_mul]; generalize i / B * L = q at hdl1 ⊢; omega
    have hm3 : -9223372036854775808 ≤ (i : Int) / B * L * B ∧ (i : Int) / B * L * B ≤ 9223372036854775807 := by
      rw [hq0, ← Int.natCast_mul, ← Int.natCast_mul]; generalize i / B * L * B = q at hdl ⊢; omega
    have hm4 : -9223372036854775808 ≤ (i : Int) / B * L * B + (i : Int) % B ∧ (i : Int) / B * L * B + (i : Int) % B ≤ 9223372036854775807 := by
      rw [hq0, ← Int.natCast_mul, ← Int.natCast_mul]; generalize i / B * L * B = q at hdl ⊢; omega
    have hat0 : (i : Int) / B * L * B + (i : Int) % B = ((i / B * L * B + i % B : Nat) : Int) := by
      rw [hq0, ← Int.natCast_emod, ← Int.natCast_mul, ← Int.natCast_mul, ← Int.natCast_add]
    clear hq0
    refine walk2 ?_
    refine aw_slot 18 (.lit (.int .i64 ((i / B * L * B + i % B : Nat) : Int))) (by show AV.lit (.int .i64 ((i : Int) / B * L * B + (i : Int) % B)) = _; rw [hat0]) ?_
    refine aw_loopB [3, 8, 11, 14, 15, 64, 65, 17, 18, 85] [0, 2] (fun n : Nat => [(86, .lit (.int .i64 n))]) (fun n => [(1, some ⟨true, false, 76, 7, wvRow cs (fillB L B i n)⟩)]) 3
      (fun n => n ≤ L) (fun n => L - n) 0 (Nat.zero_le _) ?_
    rintro n hn
    dsimp only [List.cons_append, List.nil_append]
    by_cases hnl : n < L
    · obtain ⟨g1, g2⟩ := lnQ_at (i := i) hBp hnl
      have hlt : (i / B * L + n) * B + i % B < cs.length := by
        rw [← hN]; exact idx3_lt hiN hnl (Nat.mod_lt _ hBp)
      obtain ⟨c, hcc⟩ : ∃ c, cs[(i / B * L + n) * B + i % B]? = some c := ⟨_, List.getElem?_eq_getElem hlt⟩
      have hln := hlat n hnl c hcc
      have hlv : ((lineAt cs L B i).map cellR)[((n : Nat) : Int).toNat]? = some (cellV c) := by rw [Int.toNat_natCast]; exact cell_at hln
      have hnB : n * B ≤ 5000 * 5000 := Nat.mul_le_mul (by omega) hbB
      have hm5 : -9223372036854775808 ≤ (n : Int) * B ∧ (n : Int) * B ≤ 9223372036854775807 := by
        rw [← Int.natCast_mul]; generalize n * B = q at hnB ⊢; omega
      have ep : (i / B * L + n) * B + i % B = i / B * L * B + i % B + n * B := by rw [Nat.add_mul]; omega
      have hset := wvRow_set (f := fillB L B i n) (g := fillB L B i (n + 1)) hcc (by simp [fillB, g1, g2]) (fun r hr hne => by
        have hb := lnQ_back L B r hBp
        simp only [fillB]
        by_cases e1 : lnQ L B r = i
        · by_cases e2 : r / B % L = n
          · exfalso
            rw [e1, e2] at hb
            exact hne hb.symm
          · rw [show decide (r / B % L < n) = decide (r / B % L < n + 1) from decide_eq_decide.2 (by omega)]
        · simp [e1])
      have hget := wvRow_get (f := fillB L B i n) hlt (by simp [fillB, g1, g2])
      have hrl := wvRow_len cs (fillB L B i n)
      rw [ep] at hset hget hlt
      have hpos2 : ((i / B * L * B + i % B : Nat) : Int) + (n : Int) * B = ((i / B * L * B + i % B + n * B : Nat) : Int) := by
        rw [Int.natCast_add (i / B * L * B + i % B), Int.natCast_mul n]
      have hix : 0 ≤ ((i / B * L * B + i % B : Nat) : Int) + (n : Int) * B ∧ ((i / B * L * B + i % B : Nat) : Int) + (n : Int) * B < cs.length := by
        rw [hpos2]; generalize i / B * L * B + i % B + n * B = q at hlt ⊢; omega
      rw [show i / B * L * B + i % B + n * B = (((i / B * L * B + i % B : Nat) : Int) + (n : Int) * B).toNat from by rw [hpos2, Int.toNat_natCast]] at hset hget
      clear hpos2 ep hlt hcc hln g1 g2 hlat hXat
      generalize i / B * L * B + i % B = at0 at hset hget hix hat0 ⊢
      refine walk2 ?_
      exact ⟨n + 1, by omega, by omega, wkR hC.m [] (by rw [← hset]; rfl)⟩
    · rw [wvRow_congr (f := fillB L B i n) (g := fillB L B (i + 1) 0) (fun p hp => by
        obtain ⟨_, hLp, _, hk⟩ := lnQ_lt (p := p) (by rw [hN]; exact hp)
        have e1 : n = L := by omega
        subst e1
        simp only [fillB, hk, Nat.not_lt_zero, decide_false, Bool.and_false, Bool.or_false, decide_true, Bool.and_true]
        rw [← Bool.decide_or]
        exact decide_eq_decide.2 (by omega))]
      refine walk2 ?_
      exact ⟨i + 1, by omega, by omega, wkR hC.m []⟩
  · rw [wvRow_all (f := fillB L B i 0) (fun p hp => by
      obtain ⟨_, _, hq, _⟩ := lnQ_lt (p := p) (by rw [hN]; exact hp)
      simp only [fillB, Bool.or_eq_true, decide_eq_true_eq]
      left; omega)]
    refine walk2 ?_
    exact fin
end Go.Proofs.Ytfnilbkahkbljaa
