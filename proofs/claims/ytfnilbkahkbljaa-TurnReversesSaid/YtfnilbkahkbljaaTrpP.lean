/- Axes the other way round: turn.Transpose, the document's, the law TurnReverses. -/
import Derived.Test.YtfnilbkahkbljaaPermQ
namespace Go.Proofs.Ytfnilbkahkbljaa
set_option linter.unusedVariables false
open Go.RowKit

def revK (d : List Int) (i : Nat) : List Int := (List.range d.length).map fun m => if m < i ∨ d.length - i ≤ m then d.getD (d.length - 1 - m) 0 else d.getD m 0
theorem revK_len (d : List Int) (i : Nat) : (revK d i).length = d.length := by simp [revK]
theorem revK_get (d : List Int) (i : Nat) {m : Nat} (h : m < d.length) : (revK d i)[m]? = some (if m < i ∨ d.length - i ≤ m then d.getD (d.length - 1 - m) 0 else d.getD m 0) := by
  unfold revK; rw [List.getElem?_map, List.getElem?_range h]; rfl
theorem revK_zero (d : List Int) : revK d 0 = d := by
  apply List.ext_getElem?
  intro m
  by_cases h : m < d.length
  · rw [revK_get d 0 h, if_neg (by omega), List.getD_eq_getElem?_getD, List.getElem?_eq_getElem h]; rfl
  · rw [List.getElem?_eq_none (by rw [revK_len]; omega), List.getElem?_eq_none (by omega)]
theorem revK_end (d : List Int) (i : Nat) (h : d.length ≤ 2 * i + 1) : revK d i = d.reverse := by
  apply List.ext_getElem?
  intro m
  by_cases hm : m < d.length
  · rw [revK_get d i hm, List.getElem?_reverse hm]
    split
    · rw [List.getD_eq_getElem?_getD, List.getElem?_eq_getElem (by omega)]; rfl
    · have : d.length - 1 - m = m := by omega
      rw [this, List.getD_eq_getElem?_getD, List.getElem?_eq_getElem hm]; rfl
  · rw [List.getElem?_eq_none (by rw [revK_len]; omega), List.getElem?_eq_none (by simp; omega)]
theorem revK_step (d : List Int) (i : Nat) (h : 2 * i + 1 < d.length) : ((revK d i).set i (d.getD (d.length - 1 - i) 0)).set (d.length - 1 - i) (d.getD i 0) = revK d (i + 1) := by
  apply List.ext_getElem?
  intro m
  by_cases hm : m < d.length
  · rw [revK_get d (i + 1) hm]
    by_cases e1 : m = d.length - 1 - i
    · subst e1
      rw [List.getElem?_set_self (by rw [List.length_set, revK_len]; omega), if_pos (by omega)]
      congr 2; omega
    · rw [List.getElem?_set_ne (by omega)]
      by_cases e2 : m = i
      · subst e2
        rw [List.getElem?_set_self (by rw [revK_len]; omega), if_pos (by omega)]
      · rw [List.getElem?_set_ne (by omega), revK_get d i hm]
        by_cases h3 : m < i ∨ d.length - i ≤ m
        · rw [if_pos h3, if_pos (by omega)]
        · rw [if_neg h3, if_neg (by omega)]
  · rw [List.getElem?_eq_none (by rw [List.length_set, List.length_set, revK_len]; omega), List.getElem?_eq_none (by rw [revK_len]; omega)]

theorem sreverse_m (d : List Int) (hl : d.length ≤ 1000) : AMut Try.prog 100 [.own 0] [(0, some ⟨true, false, 3, 1, intsA .i64 d⟩)] 1 (.tup []) [(0, some ⟨true, false, 3, 1, intsA .i64 d.reverse⟩)] 1 := by
  have ld := intsA_len .i64 d
  refine amut_of code_slices_Reverse_int (by simp [fn_slices_Reverse_int]) fun C hC => ?_
  refine walk2 ?_
  refine aw_loopB [0] [] (fun i : Nat => [(2, .lit (.int .i64 i)), (3, .lit (.int .i64 ((d.length : Int) - 1 - i)))]) (fun i => [(0, some ⟨true, false, 3, 1, intsA .i64 (revK d i)⟩)]) 1
    (fun i => i ≤ d.length) (fun i => d.length - i) 0 (Nat.zero_le _) ?_ (hh := by rw [revK_zero]; rfl) (ht := by simp only [Int.natCast_zero, Int.sub_zero]; rfl)
  rintro i hi
  dsimp only [List.cons_append, List.nil_append]
  have hrl := revK_len d i
  have lr := intsA_len .i64 (revK d i)
  by_cases h : 2 * i + 1 < d.length
  · have g1 := revK_get d i (m := i) (by omega)
    rw [if_neg (by omega)] at g1
    have g2 := revK_get d i (m := d.length - 1 - i) (by omega)
    rw [if_neg (by omega)] at g2
    have hst := revK_step d i h
    have k1 : (intsA .i64 (revK d i))[((i : Nat) : Int).toNat]? = some [.lit (.int .i64 (d.getD i 0))] := int_at g1
    have k2 : (intsA .i64 (revK d i))[((d.length : Int) - 1 - i).toNat]? = some [.lit (.int .i64 (d.getD (d.length - 1 - i) 0))] := by
      rw [show ((d.length : Int) - 1 - i).toNat = d.length - 1 - i from by omega]; exact int_at g2
    have k3 : ((intsA .i64 (revK d i)).set ((i : Nat) : Int).toNat [.lit (.int .i64 (d.getD (d.length - 1 - i) 0))])[((d.length : Int) - 1 - i).toNat]? = some [.lit (.int .i64 (d.getD (d.length - 1 - i) 0))] := by
      rw [List.getElem?_set_ne (by omega)]; exact k2
    have hs2 : ((intsA .i64 (revK d i)).set ((i : Nat) : Int).toNat [.lit (.int .i64 (d.getD (d.length - 1 - i) 0))]).set ((d.length : Int) - 1 - i).toNat [.lit (.int .i64 (d.getD i 0))] = intsA .i64 (revK d (i + 1)) := by
      rw [show ((d.length : Int) - 1 - i).toNat = d.length - 1 - i from by omega, Int.toNat_natCast, intsA_set, intsA_set, hst]
    generalize d.getD i 0 = a at k1 hs2
    generalize d.getD (d.length - 1 - i) 0 = b at k2 k3 hs2
    have lsx : ((((intsA .i64 (revK d i)).set ((i : Nat) : Int).toNat [.lit (.int .i64 b)]).length : Nat) : Int) = d.length := by rw [List.length_set, lr, hrl]
    clear g1 g2 hst
    refine walk2 ?_
    exact ⟨i + 1, by omega, by omega, wkR hC.m [] (by rw [← hs2, show (d.length : Int) - 1 - ((i + 1 : Nat) : Int) = (d.length : Int) - 1 - i - 1 from by omega]; rfl)⟩
  · rw [revK_end d i (by omega)]
    refine walk2 ?_
    exact fin_m []

theorem trp2_m (d : List Int) (hl : d.length ≤ 1000) : AMut Try.prog 101 [.own 0] [(0, some ⟨true, false, 3, 1, intsA .i64 d⟩)] 1 (.tup []) [(0, some ⟨true, false, 3, 1, intsA .i64 d.reverse⟩)] 1 := by
  have c1 := sreverse_m d hl
  refine amut_of code_turn_Transpose_2 (by simp [fn_turn_Transpose_2]) fun C hC => ?_
  refine walk2 ?_
  refine aw_reg (rrun2 ?_)
  refine r_callM [(0, 0)] c1 ?_
  refine rrun2 ?_
  refine rg_nil ⟨rfl, ?_⟩
  exact fin_m []

def revL (n : Nat) : List Int := (List.range n).map fun i : Nat => ((n - i : Nat) : Int)
theorem revL_len (n : Nat) : (revL n).length = n := by simp [revL]
theorem revL_get {n i : Nat} (h : i < n) : (revL n)[i]? = some ((n - i : Nat) : Int) := by unfold revL; rw [List.getElem?_map, List.getElem?_range h]; rfl
theorem revL_ok (n : Nat) : okP (revL n) n n := fun m k hm hk => by
  rw [revL_get hm] at hk
  simp only [Option.some.injEq] at hk
  subst hk
  refine ⟨by omega, by omega, ?_⟩
  have hle := posL_le (revL_get hm)
  have hg := posL_get (l := revL n) (a := ((n - m : Nat) : Int)) (by rw [revL_len]; omega)
  rw [revL_get (by omega)] at hg
  simp only [Option.some.injEq] at hg
  omega
theorem revL_ok' (n : Nat) : okP (revL n) (revL n).length (revL n).length := by rw [revL_len]; exact revL_ok n
theorem gat_rev {n : Nat} {d : List Int} (hd : d.length = n) : gat (revL n) d = d.reverse := by
  apply List.ext_getElem?
  intro i
  by_cases h : i < n
  · rw [gat_get (revL_get h), List.getElem?_reverse (by omega), List.getD_eq_getElem?_getD, show (((n - i : Nat) : Int) - 1).toNat = d.length - 1 - i from by omega, List.getElem?_eq_getElem (by omega)]
    rfl
  · rw [List.getElem?_eq_none (by rw [gat_len, revL_len]; omega), List.getElem?_eq_none (by simp; omega)]
theorem sca_rev {n : Nat} {d : List Int} (hd : d.length = n) : sca (revL n) d = d.reverse := by
  have := sca_gat (l := revL n) (d := d.reverse) (revL_ok' n) (by simp [revL_len, hd])
  rw [gat_rev (by simp [hd]), List.reverse_reverse] at this
  exact this

def trA (A : Arr) : Arr := .mk A.s A.shape.reverse (permL A.cells (perN (revL A.shape.length) A.shape))

theorem trp_facts {A : Arr} (hA : okJ A) : PerF (revL A.shape.length) A := per_facts hA (revL_len _) (revL_ok' _)

theorem trp_moved {A : Arr} (hA : okJ A) : ACalls Try.prog 92 [.agg (arrV A), .sl 1 (intsA .i64 A.shape.reverse), .fn 101 [] []] (.agg (arrV (trA A))) := by
  have F := trp_facts hA
  have e := sca_rev (d := A.shape) rfl
  have h6 := hA.len
  have c := moved0_a A hA.ok A.shape.reverse 101 List.reverse (by rw [← e]; exact F.e) (by rw [← e]; exact F.c) hA.cells
    (fun i hi => trp2_m _ (by rw [digR_len]; simp; omega))
    (fun i hi => by
      have h1 := F.n i hi
      rw [e, gat_rev (by rw [digR_len]; simp)] at h1
      exact ⟨_, h1.2.1, h1.1, by rw [List.length_reverse, digR_len]; simp; omega⟩)
  rw [movedL_eq (p := perN (revL A.shape.length) A.shape) (fun i hi => by
    have h1 := F.n i hi
    rw [e, gat_rev (by rw [digR_len]; simp)] at h1
    exact h1.1)] at c
  exact c

theorem sreverse0_a : ACalls Try.prog 100 [.sl 1 []] (.tup []) := by
  have hz : ((([] : List (List AV)).length : Nat) : Int) = 0 := rfl
  refine acalls_of code_slices_Reverse_int (by simp [fn_slices_Reverse_int]) fun C hC => ?_
  refine walk2 ?_
  refine aw_loopB [0] [] (fun i : Nat => [(2, .lit (.int .i64 0)), (3, .lit (.int .i64 (-1)))]) (fun i => []) 0 (fun _ => True) (fun _ => 0) 0 trivial ?_
  rintro i _
  dsimp only [List.cons_append, List.nil_append]
  refine walk2 ?_
  exact fin

theorem transpose_a (A : Arr) (hA : okJ A) : ACalls Try.prog 46 [.agg (arrV A)] (.agg (arrV (trA A))) := by
  have c4 := trp_moved hA
  have h6 := hA.len
  have ls := intsA_len .i64 A.shape
  by_cases h : A.shape = []
  · have c1 : ACalls Try.prog 63 [.sl 1 (intsA .i64 A.shape)] (.sl 1 []) := by
      have := cloneInt_a (intsA .i64 A.shape) (by omega)
      rw [h] at this ⊢
      exact this
    have c2 := sreverse0_a
    rw [show A.shape.reverse = [] from by rw [h]; rfl, show intsA .i64 [] = [] from rfl] at c4
    generalize trA A = Z at c4 ⊢
    refine acalls_defer code_turn_Transpose (by simp [fn_turn_Transpose]) idle_turn_Transpose fun C hC => ?_
    refine walk2 ?_
    intro ds
    refine walk2 ?_
    exact fin
  · have h0 : A.shape.length ≠ 0 := fun e => h (List.eq_nil_of_length_eq_zero e)
    have c1 := cloneInt_m (intsA .i64 A.shape) (by omega) (by omega)
    have c2 := sreverse_m A.shape (by omega)
    generalize trA A = Z at c4 ⊢
    refine acalls_defer code_turn_Transpose (by simp [fn_turn_Transpose]) idle_turn_Transpose fun C hC => ?_
    refine walk2 ?_
    intro ds
    refine walk2 ?_
    refine aw_reg (rrun2 ?_)
    refine r_callN [] c1 ?_
    refine rrun2 ?_
    refine rg_nil ⟨rfl, ?_⟩
    refine walk2 ?_
    refine aw_reg (rrun2 ?_)
    refine r_callM [(2, 0)] c2 ?_
    refine rrun2 ?_
    refine rg_nil ⟨rfl, ?_⟩
    refine aw_freeze 2 rfl ?_
    refine aw_view 3 rfl rfl ?_
    refine walk2 ?_
    exact fin

theorem refTranspose_a (A : Arr) (hA : okJ A) : ACalls Try.prog 48 [.agg (arrV A)] (.agg (arrV (trA A))) := by
  have h6 := hA.len
  have ls := intsA_len .i64 A.shape
  have c1 := permuted_a (revL A.shape.length) A hA (by rw [revL_len]; omega)
  unfold perQ at c1
  rw [if_neg (by simp [revL_len]), okB_iff.2 (revL_ok' _), if_pos rfl, sca_rev rfl] at c1
  have c1 : ACalls Try.prog 102 [.agg (arrV A), .sl 1 (intsA .i64 (revL A.shape.length))] (.tup [.agg (arrV (trA A)), .lit (.int .i64 0)]) := c1
  generalize trA A = Z at c1 ⊢
  refine acalls_of code_scrimref14_Transpose (by simp [fn_scrimref14_Transpose]) fun C hC => ?_
  refine walk2 ?_
  refine aw_nil 3 3 1 rfl ?_
  refine aw_loopB [1, 2] [0, 1] (fun i : Nat => [(3, .own 2), (4, .lit (.int .i64 ((A.shape.length : Int) - i)))]) (fun i => [(2, some ⟨true, false, 3, 1, intsA .i64 ((revL A.shape.length).take i)⟩)]) 3
    (fun i => i ≤ A.shape.length) (fun i => A.shape.length - i) 0 (Nat.zero_le _) ?_ (ht := by simp only [Int.natCast_zero, Int.sub_zero]; rfl)
  rintro i hi
  dsimp only [List.cons_append, List.nil_append]
  have hll : (intsA .i64 ((revL A.shape.length).take i)).length = i := by
    have := intsA_len .i64 ((revL A.shape.length).take i)
    simp [revL_len] at this; omega
  by_cases hil : i < A.shape.length
  · have hs : intsA .i64 ((revL A.shape.length).take i) ++ [[.lit (.int .i64 ((A.shape.length : Int) - i))]] = intsA .i64 ((revL A.shape.length).take (i + 1)) := by
      rw [takeA_snoc (revL_get hil), ← intsA_app, show ((A.shape.length - i : Nat) : Int) = (A.shape.length : Int) - i from by omega]; rfl
    generalize intsA .i64 ((revL A.shape.length).take i) = Y at hll hs ⊢
    clear c1
    refine walk2 ?_
    exact ⟨i + 1, by omega, by omega, wkR hC.m [(2, 4)] (by rw [← hs, show (A.shape.length : Int) - ((i + 1 : Nat) : Int) = (A.shape.length : Int) - i - 1 from by omega]; rfl)⟩
  · rw [show (revL A.shape.length).take i = revL A.shape.length from List.take_of_length_le (by rw [revL_len]; omega)]
    refine walk2 ?_
    exact fin

theorem trp_mem {A : Arr} (hA : okJ A) : (trA A).cells.length = A.cells.length ∧ ∀ c ∈ (trA A).cells, c ∈ A.cells := per_mem hA (trp_facts hA)

theorem trA_shape {A : Arr} (hA : okJ A) : (cnt (trA A).shape).2 = 0 ∧ (cnt (trA A).shape).1 = (trA A).cells.length := by
  have F := trp_facts hA
  have e : (trA A).shape = sca (revL A.shape.length) A.shape := (sca_rev rfl).symm
  rw [e, (trp_mem hA).1]
  exact ⟨F.e, F.c⟩

theorem trA_okJ {A : Arr} (hA : okJ A) : okJ (trA A) := by
  obtain ⟨m1, m2⟩ := trp_mem hA
  obtain ⟨s1, s2⟩ := trA_shape hA
  obtain ⟨a1, a2, a3, a4⟩ := hA.ok.parts
  refine ⟨?_, s1, s2⟩
  simp only [trA, okA]
  exact ⟨a1, by simp only [List.length_reverse]; exact a2, by have := hA.cells; simp only [permL_len, maxB]; omega, okCs_of fun c hc => okCs_mem.1 a4 c (m2 c hc)⟩

/-- twice it is itself -/
theorem trA_trA {A : Arr} (hA : okJ A) : trA (trA A) = A := by
  have hB := trA_okJ hA
  have F := trp_facts hA
  have G := trp_facts hB
  have hn : (trA A).shape.length = A.shape.length := by simp [trA, Arr.shape]
  have hsh : (trA A).shape = A.shape.reverse := rfl
  have hcl := (trp_mem hA).1
  rw [hn] at G
  have key : ∀ j, j < A.cells.length → perN (revL A.shape.length) A.shape (perN (revL A.shape.length) (trA A).shape j) = j := fun j hj => by
    obtain ⟨p1, _⟩ := F.p (by omega)
    have g := G.n j (by rw [hcl]; exact hj)
    obtain ⟨j2, hj2⟩ : ∃ j2, perN (revL A.shape.length) (trA A).shape j = j2 := ⟨_, rfl⟩
    rw [hj2] at g ⊢
    have f := F.n j2 (by have := g.2.1; rw [hcl] at this; exact this)
    have e1 := g.2.2
    rw [sca_rev (n := A.shape.length) (d := (trA A).shape) hn, hsh, List.reverse_reverse, gat_rev (by rw [digR_len])] at e1
    have e2 := f.2.2
    rw [sca_rev rfl, ← e1, gat_rev (by rw [List.length_reverse, digR_len]), List.reverse_reverse] at e2
    have hp := hA.prod
    have := digR_inj p1 (m := (j : Int)) (n := ((perN (revL A.shape.length) A.shape j2 : Nat) : Int)) (by omega) (by omega) (by omega) (by rw [hp]; have := f.2.1; omega) e2
    omega
  have hlt : ∀ i, i < A.cells.length → perN (revL A.shape.length) (trA A).shape i < A.cells.length := fun i hi => by
    have := (G.n i (by rw [hcl]; exact hi)).2.1
    rw [hcl] at this; exact this
  obtain ⟨s, sh, cs⟩ := A
  show Arr.mk s sh.reverse.reverse (permL (permL cs (perN (revL sh.length) sh)) (perN (revL sh.reverse.length) sh.reverse)) = _
  rw [List.reverse_reverse, List.length_reverse]
  have e1 := permL_perm cs (perN (revL sh.length) sh) (perN (revL sh.length) sh.reverse) hlt
  have e2 : permL cs (fun i => perN (revL sh.length) sh (perN (revL sh.length) sh.reverse i)) = cs := permL_id key
  rw [e1, e2]

theorem revA_revA {A : Arr} (hA : okJ A) (first : Bool) : revA (revA A first) first = A := by
  by_cases h : A.shape = []
  · have e : ∀ B : Arr, B.shape = [] → revA B first = B := fun B h => by unfold revA; rw [if_pos h]
    rw [e A h, e A h]
  · have e1 : revA A first = .mk A.s A.shape (permL A.cells (fun i => rotI (lenT A first) (behT A first) (lenT A first - 1 - jOf (lenT A first) (behT A first) i) i)) := by unfold revA; rw [if_neg h]
    have e2 : revA (.mk A.s A.shape (permL A.cells (fun i => rotI (lenT A first) (behT A first) (lenT A first - 1 - jOf (lenT A first) (behT A first) i) i))) first = .mk A.s A.shape (permL (permL A.cells (fun i => rotI (lenT A first) (behT A first) (lenT A first - 1 - jOf (lenT A first) (behT A first) i) i)) (fun i => rotI (lenT A first) (behT A first) (lenT A first - 1 - jOf (lenT A first) (behT A first) i) i)) := by
      show (if A.shape = [] then _ else _) = _
      rw [if_neg h]; rfl
    rw [e1, e2, permL_perm, permL_id]
    · cases A; rfl
    · intro i hi
      have K := ax_at hA first h (by omega)
      have hL := K.L_pos
      have hB := K.B_pos
      have hj := jOf_lt (B := behT A first) hL i
      have hk : lenT A first - 1 - jOf (lenT A first) (behT A first) i < lenT A first := by omega
      rw [jOf_rot hB hk, rot_rot hB hk, show lenT A first - 1 - (lenT A first - 1 - jOf (lenT A first) (behT A first) i) = jOf (lenT A first) (behT A first) i from by omega]
      exact rot_self i
    · intro i hi
      have K := ax_at hA first h (by omega)
      have hL := K.L_pos
      have hj := jOf_lt (B := behT A first) hL i
      exact (K.idx hA hi (by omega)).2

theorem arrOK_trp {A : Arr} (hA : okJ A) (oA : arrOK A) : arrOK (trA A) := by
  obtain ⟨m1, m2⟩ := trp_mem hA
  exact arrOK_new oA oA.parts.1 (fun z hz => hA.small z (List.mem_reverse.1 hz)) (by have := hA.len; show A.shape.reverse.length ≤ 6; simp; omega) m1 m2

set_option maxHeartbeats 1000000 in
theorem turnReverses_a (A : Arr) (first : Bool) (hA : arrOK A) : ACalls Try.prog 11 [.agg (arrV A), .lit (.bool first)] (.lit (.bool true)) := by
  have c0 := awake14_a
  cases gA : (goodA A && decide (A.cells.length ≤ 100))
  · have c1 := light14_at A hA gA
    refine acalls_of code_scrimlaw14_TurnReverses (by simp [fn_scrimlaw14_TurnReverses]) fun C hC => ?_
    refine walk2 ?_
    exact fin
  · have kA := okJ_good hA (light_good gA)
    have rA := good_right (light_good gA)
    have c1 := light14_at A hA gA
    have c2 := reverse_a A first kA
    have c3 := transpose_a A kA
    have c4 := refReverse_a A first kA
    have c5 := refTranspose_a A kA
    obtain ⟨v1, v2, v3, v4⟩ := rev_mem kA first
    have kX := okJ_same kA (by rw [v1]; exact hA.parts.1) v2 v3 v4
    have oX := arrOK_same hA (by rw [v1]; exact hA.parts.1) v2 v3 v4
    have rX := right_same rA v2 v3 v4
    obtain ⟨w1, w2⟩ := trp_mem kA
    obtain ⟨w3, w4⟩ := trA_shape kA
    have kY := trA_okJ kA
    have oY := arrOK_trp kA hA
    have rY := right_new rA w3 w4 w2
    have c6 := reverse_a _ first kX
    rw [revA_revA kA first] at c6
    have c7 := transpose_a _ kY
    rw [trA_trA kA] at c7
    have s1 := same_a _ _ oX oX
    have s2 := same_a _ _ oY oY
    have s3 := same_a _ _ hA hA
    rw [sameA_refl] at s1 s2 s3
    have q1 := right_at 8 _ 8 rfl (by omega) oX rX
    have q2 := right_at 8 _ 8 rfl (by omega) oY rY
    clear v1 v2 v3 v4 w1 w2 w3 w4 kX oX rX kY oY rY rA kA gA hA
    generalize revA A first = X at *
    generalize trA A = Y at *
    refine acalls_of code_scrimlaw14_TurnReverses (by simp [fn_scrimlaw14_TurnReverses]) fun C hC => ?_
    refine walk2 ?_
    exact fin
end Go.Proofs.Ytfnilbkahkbljaa
