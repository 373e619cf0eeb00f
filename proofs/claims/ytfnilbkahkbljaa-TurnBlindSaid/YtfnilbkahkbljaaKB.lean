/- Axes the other way round: turn.Transpose, the document's, the law TurnReverses. -/
import Derived.Test.YtfnilbkahkbljaaKP
import Derived.Test.YtfnilbkahkbljaaKJ
namespace Go.Proofs.Ytfnilbkahkbljaa
set_option linter.unusedVariables false
open Go.RowKit

def revK (d : List Int) (i : Nat) : List Int := (List.range d.length).map fun m => if m < i ∨ d.length - i ≤ m then d.getD (d.length - 1 - m) 0 else d.getD m 0
theorem revK_len (d : List Int) (i : Nat) : (revK d i).length = d.length := by simp [revK]
theorem revK_get (d : List Int) (i : Nat) {m : Nat} (h : m < d.length) : (revK d i)[m]? = some (if m < i ∨ d.length - i ≤ m then d.getD (d.length - 1 - m) 0 else d.getD m 0) := by
  unfold revK; rw [List.getElem?_map, List.getElem?_range h]; rfl
theorem revK_zero (d : List Int) : revK d 0 = d := by
  apply List.ext_getElem?
  intro m
  by_cases h : m < d.length
  · rw [revK_get d 0 h, if_neg (by omega), List.getD_eq_getElem?_getD, List.getElem?_eq_getElem h]; rfl
  · rw [List.getElem?_eq_none (by rw [revK_len]; omega), List.getElem?_eq_none (by omega)]
theorem revK_end (d : List Int) (i : Nat) (h : d.length ≤ 2 * i + 1) : revK d i = d.reverse := by
  apply List.ext_getElem?
  intro m
  by_cases hm : m < d.length
  · rw [revK_get d i hm, List.getElem?_reverse hm]
    split
    · rw [List.getD_eq_getElem?_getD, List.getElem?_eq_getElem (by omega)]; rfl
    · have : d.length - 1 - m = m := by omega
      rw [this, List.getD_eq_getElem?_getD, List.getElem?_eq_getElem hm]; rfl
  · rw [List.getElem?_eq_none (by rw [revK_len]; omega), List.getElem?_eq_none (by simp; omega)]
theorem revK_step (d : List Int) (i : Nat) (h : 2 * i + 1 < d.length) : ((revK d i).set i (d.getD (d.length - 1 - i) 0)).set (d.length - 1 - i) (d.getD i 0) = revK d (i + 1) := by
  apply List.ext_getElem?
  intro m
  by_cases hm : m < d.length
  · rw [revK_get d (i + 1) hm]
    by_cases e1 : m = d.length - 1 - i
    · subst e1
      rw [List.getElem?_set_self (by rw [List.length_set, revK_len]; omega), if_pos (by omega)]
      congr 2; omega
    · rw [List.getElem?_set_ne (by omega)]
      by_cases e2 : m = i
      · subst e2
        rw [List.getElem?_set_self (by rw [revK_len]; omega), if_pos (by omega)]
      · rw [List.getElem?_set_ne (by omega), revK_get d i hm]
        by_cases h3 : m < i ∨ d.length - i ≤ m
        · rw [if_pos h3, if_pos (by omega)]
        · rw [if_neg h3, if_neg (by omega)]
  · rw [List.getElem?_eq_none (by rw [List.length_set, List.length_set, revK_len]; omega), List.getElem?_eq_none (by rw [revK_len]; omega)]

theorem sreverse_m (d : List Int) (hl : d.length ≤ 1000) : AMut Try.prog 100 [.own 0] [(0, some ⟨true, false, 3, 1, intsA .i64 d⟩)] 1 (.tup []) [(0, some ⟨true, false, 3, 1, intsA .i64 d.reverse⟩)] 1 := by
  have ld := intsA_len .i64 d
  refine amut_of code_slices_Reverse_int (by simp [fn_slices_Reverse_int]) fun C hC => ?_
  refine walk2 ?_
  refine aw_loopB [0] [] (fun i : Nat => [(2, .lit (.int .i64 i)), (3, .lit (.int .i64 ((d.length : Int) - 1 - i)))]) (fun i => [(0, some ⟨true, false, 3, 1, intsA .i64 (revK d i)⟩)]) 1
    (fun i => i ≤ d.length) (fun i => d.length - i) 0 (Nat.zero_le _) ?_ (hh := by rw [revK_zero]; rfl) (ht := by simp only [Int.natCast_zero, Int.sub_zero]; rfl)
  rintro i hi
  dsimp only [List.cons_append, List.nil_append]
  have hrl := revK_len d i
  have lr := intsA_len .i64 (revK d i)
  by_cases h : 2 * i + 1 < d.length
  · have g1 := revK_get d i (m := i) (by omega)
    rw [if_neg (by omega)] at g1
    have g2 := revK_get d i (m := d.length - 1 - i) (by omega)
    rw [if_neg (by omega)] at g2
    have hst := revK_step d i h
    have k1 : (intsA .i64 (revK d i))[((i : Nat) : Int).toNat]? = some [.lit (.int .i64 (d.getD i 0))] := int_at g1
    have k2 : (intsA .i64 (revK d i))[((d.length : Int) - 1 - i).toNat]? = some [.lit (.int .i64 (d.getD (d.length - 1 - i) 0))] := by
      rw [show ((d.length : Int) - 1 - i).toNat = d.length - 1 - i from by omega]; exact int_at g2
    have k3 : ((intsA .i64 (revK d i)).set ((i : Nat) : Int).toNat [.lit (.int .i64 (d.getD (d.length - 1 - i) 0))])[((d.length : Int) - 1 - i).toNat]? = some [.lit (.int .i64 (d.getD (d.length - 1 - i) 0))] := by
      rw [List.getElem?_set_ne (by omega)]; exact k2
    have hs2 : ((intsA .i64 (revK d i)).set ((i : Nat) : Int).toNat [.lit (.int .i64 (d.getD (d.length - 1 - i) 0))]).set ((d.length : Int) - 1 - i).toNat [.lit (.int .i64 (d.getD i 0))] = intsA .i64 (revK d (i + 1)) := by
      rw [show ((d.length : Int) - 1 - i).toNat = d.length - 1 - i from by omega, Int.toNat_natCast, intsA_set, intsA_set, hst]
    generalize d.getD i 0 = a at k1 hs2
    generalize d.getD (d.length - 1 - i) 0 = b at k2 k3 hs2
    have lsx : ((((intsA .i64 (revK d i)).set ((i : Nat) : Int).toNat [.lit (.int .i64 b)]).length : Nat) : Int) = d.length := by rw [List.length_set, lr, hrl]
    clear g1 g2 hst
    refine walk2 ?_
    exact ⟨i + 1, by omega, by omega, wkR hC.m [] (by rw [← hs2, show (d.length : Int) - 1 - ((i + 1 : Nat) : Int) = (d.length : Int) - 1 - i - 1 from by omega]; rfl)⟩
  · rw [revK_end d i (by omega)]
    refine walk2 ?_
    exact fin_m []

theorem trp2_m (d : List Int) (hl : d.length ≤ 1000) : AMut Try.prog 101 [.own 0] [(0, some ⟨true, false, 3, 1, intsA .i64 d⟩)] 1 (.tup []) [(0, some ⟨true, false, 3, 1, intsA .i64 d.reverse⟩)] 1 := by
  have c1 := sreverse_m d hl
  refine amut_of code_turn_Transpose_2 (by simp [fn_turn_Transpose_2]) fun C hC => ?_
  refine walk2 ?_
  refine aw_reg (rrun2 ?_)
  refine r_callM [(0, 0)] c1 ?_
  refine rrun2 ?_
  refine rg_nil ⟨rfl, ?_⟩
  exact fin_m []

def revL (n : Nat) : List Int := (List.range n).map fun i : Nat => ((n - i : Nat) : Int)
theorem revL_len (n : Nat) : (revL n).length = n := by simp [revL]
theorem revL_get {n i : Nat} (h : i < n) : (revL n)[i]? = some ((n - i : Nat) : Int) := by unfold revL; rw [List.getElem?_map, List.getElem?_range h]; rfl
theorem revL_ok (n : Nat) : okP (revL n) n n := fun m k hm hk => by
  rw [revL_get hm] at hk
  simp only [Option.some.injEq] at hk
  subst hk
  refine ⟨by omega, by omega, ?_⟩
  have hle := posL_le (revL_get hm)
  have hg := posL_get (l := revL n) (a := ((n - m : Nat) : Int)) (by rw [revL_len]; omega)
  rw [revL_get (by omega)] at hg
  simp only [Option.some.injEq] at hg
  omega
theorem revL_ok' (n : Nat) : okP (revL n) (revL n).length (revL n).length := by rw [revL_len]; exact revL_ok n
theorem gat_rev {n : Nat} {d : List Int} (hd : d.length = n) : gat (revL n) d = d.reverse := by
  apply List.ext_getElem?
  intro i
  by_cases h : i < n
  · rw [gat_get (revL_get h), List.getElem?_reverse (by omega), List.getD_eq_getElem?_getD, show (((n - i : Nat) : Int) - 1).toNat = d.length - 1 - i from by omega, List.getElem?_eq_getElem (by omega)]
    rfl
  · rw [List.getElem?_eq_none (by rw [gat_len, revL_len]; omega), List.getElem?_eq_none (by simp; omega)]
theorem sca_rev {n : Nat} {d : List Int} (hd : d.length = n) : sca (revL n) d = d.reverse := by
  have := sca_gat (l := revL n) (d := d.reverse) (revL_ok' n) (by simp [revL_len, hd])
  rw [gat_rev (by simp [hd]), List.reverse_reverse] at this
  exact this

def trA (A : Arr) : Arr := .mk A.s A.shape.reverse (permL A.cells (perN (revL A.shape.length) A.shape))

theorem trp_facts {A : Arr} (hA : okJ A) : PerF (revL A.shape.length) A := per_facts hA (revL_len _) (revL_ok' _)

theorem trp_moved {A : Arr} (hA : okJ A) : ACalls Try.prog 92 [.agg (arrV A), .sl 1 (intsA .i64 A.shape.reverse), .fn 101 [] []] (.agg (arrV (trA A))) := by
  have F := trp_facts hA
  have e := sca_rev (d := A.shape) rfl
  have h6 := hA.len
  have c := moved0_a A hA.ok A.shape.reverse 101 List.reverse (by rw [← e]; exact F.e) (by rw [← e]; exact F.c) hA.cells
    (fun i hi => trp2_m _ (by rw [digR_len]; simp; omega))
    (fun i hi => by
      have h1 := F.n i hi
      rw [e, gat_rev (by rw [digR_len]; simp)] at h1
      exact ⟨_, h1.2.1, h1.1, by rw [List.length_reverse, digR_len]; simp; omega⟩)
  rw [movedL_eq (p := perN (revL A.shape.length) A.shape) (fun i hi => by
    have h1 := F.n i hi
    rw [e, gat_rev (by rw [digR_len]; simp)] at h1
    exact h1.1)] at c
  exact c

theorem sreverse0_a : ACalls Try.prog 100 [.sl 1 []] (.tup []) := by
  have hz : ((([] : List (List AV)).length : Nat) : Int) = 0 := rfl
  refine acalls_of code_slices_Reverse_int (by simp [fn_slices_Reverse_int]) fun C hC => ?_
  refine walk2 ?_
  refine aw_loopB [0] [] (fun i : Nat => [(2, .lit (.int .i64 0)), (3, .lit (.int .i64 (-1)))]) (fun i => []) 0 (fun _ => True) (fun _ => 0) 0 trivial ?_
  rintro i _
  dsimp only [List.cons_append, List.nil_append]
  refine walk2 ?_
  exact fin

theorem transpose_a (A : Arr) (hA : okJ A) : ACalls Try.prog 46 [.agg (arrV A)] (.agg (arrV (trA A))) := by
  have c4 := trp_moved hA
  have h6 := hA.len
  have ls := intsA_len .i64 A.shape
  by_cases h : A.shape = []
  · have c1 : ACalls Try.prog 63 [.sl 1 (intsA .i64 A.shape)] (.sl 1 []) := by
      have := cloneInt_a (intsA .i64 A.shape) (by omega)
      rw [h] at this ⊢
      exact this
    have c2 := sreverse0_a
    rw [show A.shape.reverse = [] from by rw [h]; rfl, show intsA .i64 [] = [] from rfl] at c4
    generalize trA A = Z at c4 ⊢
    refine acalls_defer code_turn_Transpose (by simp [fn_turn_Transpose]) idle_turn_Transpose fun C hC => ?_
    refine walk2 ?_
    intro ds
    refine walk2 ?_
    exact fin
  · have h0 : A.shape.length ≠ 0 := fun e => h (List.eq_nil_of_length_eq_zero e)
    have c1 := cloneInt_m (intsA .i64 A.shape) (by omega) (by omega)
    have c2 := sreverse_m A.shape (by omega)
    generalize trA A = Z at c4 ⊢
    refine acalls_defer code_turn_Transpose (by simp [fn_turn_Transpose]) idle_turn_Transpose fun C hC => ?_
    refine walk2 ?_
    intro ds
    refine walk2 ?_
    refine aw_reg (rrun2 ?_)
    refine r_callN [] c1 ?_
    refine rrun2 ?_
    refine rg_nil ⟨rfl, ?_⟩
    refine walk2 ?_
    refine aw_reg (rrun2 ?_)
    refine r_callM [(2, 0)] c2 ?_
    refine rrun2 ?_
    refine rg_nil ⟨rfl, ?_⟩
    refine aw_freeze 2 rfl ?_
    refine aw_view 3 rfl rfl ?_
    refine walk2 ?_
    exact fin

theorem trp_mem {A : Arr} (hA : okJ A) : (trA A).cells.length = A.cells.length ∧ ∀ c ∈ (trA A).cells, c ∈ A.cells := per_mem hA (trp_facts hA)

theorem arrOK_trp {A : Arr} (hA : okJ A) (oA : arrOK A) : arrOK (trA A) := by
  obtain ⟨m1, m2⟩ := trp_mem hA
  exact arrOK_new oA oA.parts.1 (fun z hz => hA.small z (List.mem_reverse.1 hz)) (by have := hA.len; show A.shape.reverse.length ≤ 6; simp; omega) m1 m2

end Go.Proofs.Ytfnilbkahkbljaa
namespace Go.Proofs.Ytfnilbkahkbljaa
set_option linter.unusedVariables false
open Go.RowKit

mutual
def visA (o : Nat) : Arr → Bool
  | .mk s _ cs => flowsN s o && visCs o cs
def visCs (o : Nat) : List Cell → Bool
  | [] => true
  | c :: cs => visC o c && visCs o cs
def visC (o : Nat) : Cell → Bool
  | .mk l _ _ _ ins => flowsN l o && visAs o ins
def visAs (o : Nat) : List Arr → Bool
  | [] => true
  | a :: xs => visA o a && visAs o xs
end

mutual
theorem vis_totA (o : Nat) : ∀ (A : Arr), flowsN (totA A) o = visA o A
  | .mk s sh cs => by simp only [totA, visA]; exact vis_totCs o cs s
theorem vis_totCs (o : Nat) : ∀ (cs : List Cell) (n : Nat), flowsN (totCs cs n) o = (flowsN n o && visCs o cs)
  | [], n => by simp [totCs, visCs]
  | c :: cs, n => by simp only [totCs, visCs]; rw [vis_totCs o cs, vis_totC o c, Bool.and_assoc]
theorem vis_totC (o : Nat) : ∀ (c : Cell) (n : Nat), flowsN (totC c n) o = (flowsN n o && visC o c)
  | .mk l _ _ _ ins, n => by simp only [totC, visC]; rw [vis_totAs o ins, flowsN_or, Bool.and_assoc]
theorem vis_totAs (o : Nat) : ∀ (xs : List Arr) (n : Nat), flowsN (totAs xs n) o = (flowsN n o && visAs o xs)
  | [], n => by simp [totAs, visAs]
  | a :: xs, n => by simp only [totAs, visAs]; rw [vis_totAs o xs, flowsN_or, vis_totA o a, Bool.and_assoc]
end

mutual
theorem seen_eqA (o : Nat) : ∀ (A B : Arr), alikeA o A B = true → visA o A = true → A = B
  | .mk s sh cs, .mk s2 sh2 cs2, h, hv => by
    simp only [visA, Bool.and_eq_true] at hv
    simp only [alikeA, hv.1] at h
    cases h2 : flowsN s2 o
    · rw [h2] at h; simp at h
    · rw [h2] at h
      simp only [and_self, if_true, Bool.and_eq_true, beq_iff_eq] at h
      have e1 := seen_eqCs o cs cs2 h.2.2 hv.2
      have e2 : sh = sh2 := by have := h.2.1; unfold intsP at this; simpa using this
      rw [h.1, e2, e1]
theorem seen_eqCs (o : Nat) : ∀ (cs ds : List Cell), alikeCs o cs ds = true → visCs o cs = true → cs = ds
  | [], [], _, _ => rfl
  | [], _ :: _, h, _ => by simp [alikeCs] at h
  | _ :: _, [], h, _ => by simp [alikeCs] at h
  | c :: cs, d :: ds, h, hv => by
    simp only [alikeCs, visCs, Bool.and_eq_true] at h hv
    rw [seen_eqC o c d h.1 hv.1, seen_eqCs o cs ds h.2 hv.2]
theorem seen_eqC (o : Nat) : ∀ (c d : Cell), alikeC o c d = true → visC o c = true → c = d
  | .mk l k n c ins, .mk l2 k2 n2 c2 ins2, h, hv => by
    simp only [visC, Bool.and_eq_true] at hv
    simp only [alikeC, hv.1] at h
    cases h2 : flowsN l2 o
    · rw [h2] at h; simp at h
    · rw [h2] at h
      simp only [and_self, if_true, Bool.and_eq_true, beq_iff_eq] at h
      have e1 := seen_eqAs o ins ins2 h.2.2.2.2 hv.2
      have e2 := (numP_iff n n2).1 h.2.2.2.1
      rw [h.1, h.2.1, h.2.2.1, e2, e1]
theorem seen_eqAs (o : Nat) : ∀ (xs ys : List Arr), alikeAs o xs ys = true → visAs o xs = true → xs = ys
  | [], [], _, _ => rfl
  | [], _ :: _, h, _ => by simp [alikeAs] at h
  | _ :: _, [], h, _ => by simp [alikeAs] at h
  | a :: xs, b :: ys, h, hv => by
    simp only [alikeAs, visAs, Bool.and_eq_true] at h hv
    rw [seen_eqA o a b h.1 hv.1, seen_eqAs o xs ys h.2 hv.2]
end

theorem visCs_mem {o : Nat} : ∀ {cs : List Cell}, visCs o cs = true ↔ ∀ c ∈ cs, visC o c = true
  | [] => by simp [visCs]
  | c :: cs => by simp only [visCs, Bool.and_eq_true, List.mem_cons, forall_eq_or_imp, visCs_mem]

/-- of two that are alike either all labels are seen, and they are one, or of neither all are -/
theorem seen_or {o : Nat} (ho : o < 18446744073709551616) {K L : Arr} (hK : okA K) (hL : okA L) (h : alikeA o K L = true) : K = L ∨ (flowsN (totA K) o = false ∧ flowsN (totA L) o = false) := by
  cases h1 : flowsN (totA K) o
  · cases h2 : flowsN (totA L) o
    · exact .inr ⟨rfl, rfl⟩
    · rw [vis_totA] at h2
      exact .inl (seen_eqA o L K (by rw [alikeA_symm ho hK hL]; exact h) h2).symm
  · rw [vis_totA] at h1
    exact .inl (seen_eqA o K L h h1)

theorem alike_permL {o : Nat} {cs ds : List Cell} (p : Nat → Nat) (h : alikeCs o cs ds = true) : alikeCs o (permL cs p) (permL ds p) = true := by
  have h0 := (alikeCs_iff o).1 h
  refine (alikeCs_iff o).2 ⟨by rw [permL_len, permL_len]; exact h0.1, fun i => ?_⟩
  by_cases hi : i < cs.length
  · rw [permL_getD cs p hi, permL_getD ds p (by omega)]
    exact h0.2 _
  · rw [List.getD_eq_getElem?_getD, List.getD_eq_getElem?_getD, List.getElem?_eq_none (by rw [permL_len]; omega), List.getElem?_eq_none (by rw [permL_len]; omega)]
    exact alikeC_D o

theorem blind_rev {o : Nat} {A B : Arr} (hA : okJ A) (hB : okJ B) (first : Bool) (h : alikeA o A B = true) : alikeA o (revA A first) (revA B first) = true := by
  rcases alikeA_inv h with ⟨a1, a2⟩ | ⟨a1, a2, a3, a4, a5⟩
  · exact alikeA_hid (by rw [(rev_mem hA first).1]; exact a1) (by rw [(rev_mem hB first).1]; exact a2)
  · have e1 : lenT A first = lenT B first := by unfold lenT axT; rw [a4]
    have e2 : behT A first = behT B first := by unfold behT axT; rw [a4]
    unfold revA
    rw [a4, e1, e2]
    split
    · exact h
    · exact alikeA_seen a3 rfl (alike_permL _ a5)

theorem blind_trp {o : Nat} {A B : Arr} (h : alikeA o A B = true) : alikeA o (trA A) (trA B) = true := by
  rcases alikeA_inv h with ⟨a1, a2⟩ | ⟨a1, a2, a3, a4, a5⟩
  · exact alikeA_hid a1 a2
  · unfold trA
    rw [a4]
    exact alikeA_seen a3 rfl (alike_permL _ a5)

theorem blind_rotC {o : Nat} {A B : Arr} (first : Bool) (z : Int) (a4 : A.shape = B.shape) (a5 : alikeCs o A.cells B.cells = true) : alikeCs o (rotC A first z) (rotC B first z) = true := by
  have e1 : lenT A first = lenT B first := by unfold lenT axT; rw [a4]
  have e2 : behT A first = behT B first := by unfold behT axT; rw [a4]
  unfold rotC
  rw [a4, e1, e2]
  split
  · exact a5
  · exact alike_permL _ a5

theorem blind_rot {o : Nat} (ho : o < 18446744073709551616) {K L A B : Arr} (hK : okA K) (hL : okA L) (first : Bool) (hk : alikeA o K L = true) (h : alikeA o A B = true) (h1 : (rotP K A first).2 = 0) (h2 : (rotP L B first).2 = 0) : alikeA o (rotP K A first).1 (rotP L B first).1 = true := by
  rcases rotP_cases K A first with ⟨g1, _⟩ | ⟨y, y1, y2, y3⟩
  · exact absurd h1 g1
  rcases rotP_cases L B first with ⟨g1, _⟩ | ⟨z, z1, z2, z3⟩
  · exact absurd h2 g1
  rw [y3, z3]
  rcases seen_or ho hK hL hk with e | ⟨t1, t2⟩
  · subst e
    rw [y2] at z2
    simp only [List.cons.injEq, and_true] at z2
    subst z2
    rcases alikeA_inv h with ⟨a1, a2⟩ | ⟨a1, a2, a3, a4, a5⟩
    · exact alikeA_hid (by show flowsN (A.s ||| totA K) o = false; rw [flowsN_or, a1]; rfl) (by show flowsN (B.s ||| totA K) o = false; rw [flowsN_or, a2]; rfl)
    · exact alikeA_seen (by show A.s ||| totA K = B.s ||| totA K; rw [a3]) a4 (blind_rotC first y a4 a5)
  · exact alikeA_hid (by show flowsN (A.s ||| totA K) o = false; rw [flowsN_or, t1, Bool.and_false]) (by show flowsN (B.s ||| totA L) o = false; rw [flowsN_or, t2, Bool.and_false])

theorem blind_per {o : Nat} (ho : o < 18446744073709551616) {K L A B : Arr} (hK : okA K) (hL : okA L) (hk : alikeA o K L = true) (h : alikeA o A B = true) (h1 : (perP K A).2 = 0) (h2 : (perP L B).2 = 0) : alikeA o (perP K A).1 (perP L B).1 = true := by
  rcases perP_cases K A with ⟨g1, _⟩ | ⟨y1, y2, y3, y4⟩
  · exact absurd h1 g1
  rcases perP_cases L B with ⟨g1, _⟩ | ⟨z1, z2, z3, z4⟩
  · exact absurd h2 g1
  rw [y4, z4]
  rcases seen_or ho hK hL hk with e | ⟨t1, t2⟩
  · subst e
    rcases alikeA_inv h with ⟨a1, a2⟩ | ⟨a1, a2, a3, a4, a5⟩
    · exact alikeA_hid (by show flowsN (A.s ||| totA K) o = false; rw [flowsN_or, a1]; rfl) (by show flowsN (B.s ||| totA K) o = false; rw [flowsN_or, a2]; rfl)
    · rw [a4]
      exact alikeA_seen (by show A.s ||| totA K = B.s ||| totA K; rw [a3]) rfl (alike_permL _ a5)
  · exact alikeA_hid (by show flowsN (A.s ||| totA K) o = false; rw [flowsN_or, t1, Bool.and_false]) (by show flowsN (B.s ||| totA L) o = false; rw [flowsN_or, t2, Bool.and_false])

theorem tot_per {K A : Arr} (hA : okJ A) (h1 : (perP K A).2 = 0) : totA (perP K A).1 ||| totA A = totA (perP K A).1 := by
  rcases perP_cases K A with ⟨g1, _⟩ | ⟨y1, y2, y3, y4⟩
  · exact absurd h1 g1
  rw [y4]
  have F := per_facts hA y2 y3
  generalize hR : (Arr.mk (A.s ||| totA K) (sca (intsR K).1 A.shape) (permL A.cells (perN (intsR K).1 A.shape))) = R
  have hself : visA (totA R) R = true := by rw [← vis_totA]; unfold flowsN; simp
  have hA' : visA (totA R) A = true := by
    rw [← hR] at hself ⊢
    generalize totA (Arr.mk (A.s ||| totA K) (sca (intsR K).1 A.shape) (permL A.cells (perN (intsR K).1 A.shape))) = o at hself ⊢
    simp only [visA, Bool.and_eq_true] at hself
    rw [flowsN_or, Bool.and_eq_true] at hself
    have hv := visCs_mem.1 hself.2
    have hc : visCs o A.cells = true := visCs_mem.2 fun c hc => by
      obtain ⟨i, hi⟩ := List.mem_iff_getElem?.1 hc
      have hil := (List.getElem?_eq_some_iff.1 hi).1
      obtain ⟨M, hM, hN, _⟩ := F.m i hil
      have hg := permL_get A.cells (perN (intsR K).1 A.shape) hM
      rw [hN, List.getD_eq_getElem?_getD, hi] at hg
      exact hv c (List.mem_of_getElem? hg)
    cases A
    simp only [visA, Bool.and_eq_true]
    exact ⟨hself.1.1, hc⟩
  rw [← vis_totA] at hA'
  unfold flowsN at hA'
  rw [Nat.or_comm]
  simpa using hA'

theorem perP_ok {K A : Arr} (kK : okJ K) (hA : okJ A) : okA (perP K A).1 := by
  rcases perP_cases K A with ⟨_, h2⟩ | ⟨_, hll, hok, h3⟩
  · rw [h2]; exact ⟨by omega, by simp, by simp, trivial⟩
  · rw [h3]
    have F := per_facts hA hll hok
    obtain ⟨m1, m2⟩ := per_mem hA F
    obtain ⟨a1, a2, a3, a4⟩ := hA.ok.parts
    have h6 := hA.len
    simp only [okA]
    exact ⟨or_lt _ _ a1 (totA_lt K kK.ok), by rw [sca_len, hll]; simp only [maxB]; omega, by rw [m1]; exact a3, okCs_of fun c hc => okCs_mem.1 a4 c (m2 c hc)⟩

set_option maxHeartbeats 8000000 in
theorem turnBlind_core (K L A B : Arr) (first : Bool) (o : Nat) (ho : o < 18446744073709551616) (hK : arrOK K) (hL : arrOK L) (hA : arrOK A) (hB : arrOK B)
    (gK : (goodA K && decide (K.cells.length ≤ 100)) = true) (gL : (goodA L && decide (L.cells.length ≤ 100)) = true) (gA : (goodA A && decide (A.cells.length ≤ 100)) = true) (gB : (goodA B && decide (B.cells.length ≤ 100)) = true)
    (h1 : alikeA o K L = true) (h2 : alikeA o A B = true) (R1 R2 S1 S2 : Arr) (e f g h : Int) (hR1 : rotP K A first = (R1, e)) (hR2 : rotP L B first = (R2, f)) (hS1 : perP K A = (S1, g)) (hS2 : perP L B = (S2, h)) :
    ACalls Try.prog 13 [.agg (arrV K), .agg (arrV L), .agg (arrV A), .agg (arrV B), .lit (.bool first), labV o] (.lit (.bool true)) := by
  have kK := okJ_good hK (light_good gK)
  have kL := okJ_good hL (light_good gL)
  have kA := okJ_good hA (light_good gA)
  have kB := okJ_good hB (light_good gB)
  have c0 := awake14_a
  have g1 := light14_at K hK gK
  have g2 := light14_at L hL gL
  have g3 := light14_at A hA gA
  have g4 := light14_at B hB gB
  have l1 := refAlike_at K L o ho hK hL h1
  have l2 := refAlike_at A B o ho hA hB h2
  have v1 := reverse_a A first kA
  have v2 := reverse_a B first kB
  obtain ⟨a1, a2, a3, a4⟩ := rev_mem kA first
  obtain ⟨b1, b2, b3, b4⟩ := rev_mem kB first
  have l3 := refAlike_at _ _ o ho (arrOK_same hA (by rw [a1]; exact hA.parts.1) a2 a3 a4) (arrOK_same hB (by rw [b1]; exact hB.parts.1) b2 b3 b4) (blind_rev kA kB first h2)
  have v3 := transpose_a A kA
  have v4 := transpose_a B kB
  have l4 := refAlike_at _ _ o ho (arrOK_trp kA hA) (arrOK_trp kB hB) (blind_trp h2)
  have c1 := rotate_a K A first hK kK kA
  have c2 := rotate_a L B first hL kL kB
  have oR1 := (rotP_facts kK kA hA first (good_right (light_good gA))).1
  have oR2 := (rotP_facts kL kB hB first (good_right (light_good gB))).1
  have aR := blind_rot ho kK.ok kL.ok first h1 h2
  rw [hR1] at c1 oR1 aR
  rw [hR2] at c2 oR2 aR
  have c3 := permute_a K A hK kK kA
  have c4 := permute_a L B hL kL kB
  have oS1 := (perP_facts kK kA hA (good_right (light_good gA))).1
  have oS2 := (perP_facts kL kB hB (good_right (light_good gB))).1
  have aS := blind_per ho kK.ok kL.ok h1 h2
  have tS := tot_per (K := K) kA
  have kS := perP_ok kK kA
  rw [hS1] at c3 oS1 aS tS kS
  rw [hS2] at c4 oS2 aS
  simp only at c1 c2 c3 c4 oR1 oR2 oS1 oS2 aR aS tS kS
  have t1 := total_a S1 kS
  have t2 := total_a A kA.ok
  have tl1 := totA_lt S1 kS
  have tl2 := totA_lt A kA.ok
  have hef : (e = 0 ∧ f = 0 ∧ ACalls Try.prog 37 [.agg (arrV R1), .agg (arrV R2), labV o] (.lit (.bool true))) ∨ (e = 0 ∧ f ≠ 0) ∨ e ≠ 0 := by
    by_cases he : e = 0
    · by_cases hf : f = 0
      · exact .inl ⟨he, hf, refAlike_at R1 R2 o ho oR1 oR2 (aR he hf)⟩
      · exact .inr (.inl ⟨he, hf⟩)
    · exact .inr (.inr he)
  have hgh : (g = 0 ∧ h = 0 ∧ ACalls Try.prog 37 [.agg (arrV S1), .agg (arrV S2), labV o] (.lit (.bool true)) ∧ bits .or .u64 ((totA S1 : Nat) : Int) ((totA A : Nat) : Int) = ((totA S1 : Nat) : Int)) ∨ (g = 0 ∧ h ≠ 0) ∨ g ≠ 0 := by
    by_cases he : g = 0
    · by_cases hf : h = 0
      · exact .inl ⟨he, hf, refAlike_at S1 S2 o ho oS1 oS2 (aS he hf), by rw [u64_or_nat _ _ tl1 tl2, tS he]⟩
      · exact .inr (.inl ⟨he, hf⟩)
    · exact .inr (.inr he)
  generalize totA S1 = T1 at *
  generalize totA A = T2 at *
  generalize revA A first = V1 at *
  generalize revA B first = V2 at *
  generalize trA A = W1 at *
  generalize trA B = W2 at *
  clear hK hL hA hB gK gL gA gB kK kL kA kB hR1 hR2 hS1 hS2 h1 h2 oR1 oR2 oS1 oS2 aR aS tS kS a1 a2 a3 a4 b1 b2 b3 b4 tl1 tl2
  rcases hef with ⟨rfl, rfl, l5⟩ | ⟨rfl, hf⟩ | he
  all_goals
    rcases hgh with ⟨rfl, rfl, l6, hor⟩ | ⟨rfl, hh⟩ | hg
    · refine acalls_of code_scrimlaw14_TurnBlind (by simp [fn_scrimlaw14_TurnBlind]) fun C hC => ?_
      refine walk2 ?_
      refine aw_reg (rrun2 ?_)
      rw [show IntKind.u64.wrap (((BitVec.ofInt IntKind.u64.bits ((T1 : Nat) : Int) ||| BitVec.ofInt IntKind.u64.bits ((T2 : Nat) : Int)).toNat : Nat) : Int) = ((T1 : Nat) : Int) from hor, show (((T1 : Nat) : Int) == ((T1 : Nat) : Int)) = true from beq_self_eq_true _]
      refine rrun2 ?_
      refine rg_nil ⟨rfl, ?_⟩
      refine walk2 ?_
      exact fin
    all_goals
      refine acalls_of code_scrimlaw14_TurnBlind (by simp [fn_scrimlaw14_TurnBlind]) fun C hC => ?_
      refine walk2 ?_
      exact fin

theorem turnBlind_a (K L A B : Arr) (first : Bool) (o : Nat) (hK : arrOK K) (hL : arrOK L) (hA : arrOK A) (hB : arrOK B) (ho : o < 18446744073709551616) :
    ACalls Try.prog 13 [.agg (arrV K), .agg (arrV L), .agg (arrV A), .agg (arrV B), .lit (.bool first), labV o] (.lit (.bool true)) := by
  have c0 := awake14_a
  obtain ⟨a, gK⟩ : ∃ a, (goodA K && decide (K.cells.length ≤ 100)) = a := ⟨_, rfl⟩
  obtain ⟨b, gL⟩ : ∃ a, (goodA L && decide (L.cells.length ≤ 100)) = a := ⟨_, rfl⟩
  obtain ⟨c, gA⟩ : ∃ a, (goodA A && decide (A.cells.length ≤ 100)) = a := ⟨_, rfl⟩
  obtain ⟨d, gB⟩ : ∃ a, (goodA B && decide (B.cells.length ≤ 100)) = a := ⟨_, rfl⟩
  obtain ⟨x, h1⟩ : ∃ a, alikeA o K L = a := ⟨_, rfl⟩
  obtain ⟨y, h2⟩ : ∃ a, alikeA o A B = a := ⟨_, rfl⟩
  have g1 := light14_at K hK gK
  have g2 := light14_at L hL gL
  have g3 := light14_at A hA gA
  have g4 := light14_at B hB gB
  have l1 := refAlike_at K L o ho hK hL h1
  have l2 := refAlike_at A B o ho hA hB h2
  cases a
  · refine acalls_of code_scrimlaw14_TurnBlind (by simp [fn_scrimlaw14_TurnBlind]) fun C hC => ?_
    refine walk2 ?_
    exact fin
  cases b
  · refine acalls_of code_scrimlaw14_TurnBlind (by simp [fn_scrimlaw14_TurnBlind]) fun C hC => ?_
    refine walk2 ?_
    exact fin
  cases c
  · refine acalls_of code_scrimlaw14_TurnBlind (by simp [fn_scrimlaw14_TurnBlind]) fun C hC => ?_
    refine walk2 ?_
    exact fin
  cases d
  · refine acalls_of code_scrimlaw14_TurnBlind (by simp [fn_scrimlaw14_TurnBlind]) fun C hC => ?_
    refine walk2 ?_
    exact fin
  cases x
  · refine acalls_of code_scrimlaw14_TurnBlind (by simp [fn_scrimlaw14_TurnBlind]) fun C hC => ?_
    refine walk2 ?_
    exact fin
  cases y
  · refine acalls_of code_scrimlaw14_TurnBlind (by simp [fn_scrimlaw14_TurnBlind]) fun C hC => ?_
    refine walk2 ?_
    exact fin
  exact turnBlind_core K L A B first o ho hK hL hA hB gK gL gA gB h1 h2 _ _ _ _ _ _ _ _ rfl rfl rfl rfl
end Go.Proofs.Ytfnilbkahkbljaa
